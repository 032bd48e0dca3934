/- SimpB, SimpC: joined by wip/bundle.py. -/
import Derived.Test.YteamnchoddegpaaGreatDoorB1
import Derived.Test.YteamnchoddegpaaGreatDoorB2
import Derived.Test.YteamnchoddegpaaGreatDoorB3
import Derived.Test.YteamnchoddegpaaGreatDoorB4
import Derived.Test.YteamnchoddegpaaGreatDoorB5
import Derived.Test.YteamnchoddegpaaGreatDoorB6
import Derived.Test.YteamnchoddegpaaGreatDoorB7
import Derived.Test.YteamnchoddegpaaGreatDoorB9
import Derived.BigQuiet
namespace Go.Proofs.YteamnchoddegpaaGreatDoor
open Go.RowKit Go.Maps
set_option maxHeartbeats 800000
/-- An answer of a rule: its kind, a term, a number. -/
def ansV (r : Nat × Int × Nat) : Value := .agg #[.int .u8 r.1, .int .i64 r.2.1, .int .u64 r.2.2]
section
variable {w w' : World} {xb gb ab ca nb ib n W room : Nat} {L : List PNode} {o : Nat} {x y : Int} {base : Nat} {F I : List Nat}
theorem anumber1 (h : Asked w xb gb ab ca nb ib 2 L o [x, y]) (v : Nat) :
    Calls Tryz.prog 144 #[.pointer (some ⟨xb, 0, none⟩), .int .i64 1, .int .u64 v] w fun e w' => e = .returned (.bool (decide (isNum L y = true ∧ numD L y = v))) ∧ w = w' := anumber_any h 1 (by decide) v
theorem neutral_any (h : Asked w xb gb ab ca nb ib 2 L o [x, y]) (b v : Nat) (hb : w.cell? ⟨b, 0, none⟩ = some (.int .u64 v)) :
    Calls Tryz.prog 143 #[.pointer (some ⟨xb, 0, none⟩), .pointer (some ⟨b, 0, none⟩)] w fun e w' => e = .returned (ansV (if isNum L (y) = true ∧ numD L (y) = v then (1, x, 0) else (0, 0, 0))) ∧ Below w.heap.size w w' := by
  obtain ⟨R, hR⟩ : ∃ R, ((if isNum L (y) = true ∧ numD L (y) = v then (1, x, 0) else (0, 0, 0) : Nat × Int × Nat)) = R := ⟨_, rfl⟩
  rw [hR]
  obtain ⟨p, hp⟩ : ∃ p, w.heap.size = p := ⟨_, rfl⟩
  have hb1 := below_new w (.cells #[.int .u8 0, .int .i64 0, .int .u64 0] 182)
  have hk1 : (w.alloc (.cells #[.int .u8 0, .int .i64 0, .int .u64 0] 182)).heap[p]? = some (.cells #[.int .u8 0, .int .i64 0, .int .u64 0] 182 (0, 0)) := by rw [← hp]; exact heap_alloc_new w _
  have HB := Lib.hid hb1; have HK := Lib.hid hk1; have HA := Lib.hid h; have HP := Lib.hid hp; have HR := Lib.hid hR; have HV := Lib.hid hb
  clear hb1 hk1 h hR hb
  go_enter Tryz.func143, Tryz.ntmps143
  go_upto_region 1 with fail
  clear hp
  refine wp_abs (fun w1 => Below w.heap.size w w1 ∧ w1.heap[p]? = some (.cells #[.int .u8 0, .int .i64 0, .int .u64 0] 182 (0, 0))) ⟨HB.out, HK.out⟩ ?_
  rintro w1 ⟨hb1, hx1⟩
  have ha := HA.out.below hb1
  have c2 := ha.c2
  obtain ⟨d0, d1, d2⟩ := cells3 hx1
  have f0 := fun j => frozen_of_row w1 p j _ _ hx1
  have hpl := (Array.getElem?_eq_some_iff.1 hx1).1
  have hpb : w.heap.size ≤ p := by rw [HP.out]; exact Nat.le_refl _
  have HB1 := Lib.hid hb1; have HPB := Lib.hid hpb
  have k0 := cell_later hb1 HV.out
  have a0 : w1.cell? ⟨ab, 0, none⟩ = some (.int .i64 x) := ha.a 0 (by decide)
  have HNUM := Lib.hid (anumber1 ha v)
  clear hb1 hx1 ha HB HK hpb
  by_cases hc : isNum L (y) = true ∧ numD L (y) = v
  · have hr : R = (1, x, 0) := by rw [← HR.out]; exact if_pos hc
    subst hr
    rw [decide_eq_true hc] at HNUM
    clear hc
    go_wp2_with (go_at_call 144; refine HNUM.out.mono ?_; rintro e w2 ⟨rfl, rfl⟩)
    refine bodyPost_ret (v := ansV (1, x, 0)) (by simp [results, Tryz.results143, go_sem, d0, d1, d2, ansV]) rfl ⟨rfl, ?_⟩
    exact (((HB1.out).setCell HPB.out _).setCell HPB.out _).setCell HPB.out _
  · have hr : R = (0, 0, 0) := by rw [← HR.out]; exact if_neg hc
    subst hr
    rw [decide_eq_false hc] at HNUM
    clear hc
    go_wp2_with (go_at_call 144; refine HNUM.out.mono ?_; rintro e w2 ⟨rfl, rfl⟩)
    refine bodyPost_ret (v := ansV (0, 0, 0)) (by simp [results, Tryz.results143, go_sem, d0, d1, d2, ansV]) rfl ⟨rfl, ?_⟩
    exact (((HB1.out).setCell HPB.out _).setCell HPB.out _).setCell HPB.out _
theorem fixed_any (h : Asked w xb gb ab ca nb ib 2 L o [x, y]) (b1 b2 b3 i v u : Nat) (hi : i < 2) (z : Int) (hz : [x, y].getD i 0 = z) (hb1' : w.cell? ⟨b1, 0, none⟩ = some (.int .i64 i)) (hb2 : w.cell? ⟨b2, 0, none⟩ = some (.int .u64 v)) (hb3 : w.cell? ⟨b3, 0, none⟩ = some (.int .u64 u)) :
    Calls Tryz.prog 146 #[.pointer (some ⟨xb, 0, none⟩), .pointer (some ⟨b1, 0, none⟩), .pointer (some ⟨b2, 0, none⟩), .pointer (some ⟨b3, 0, none⟩)] w fun e w' => e = .returned (ansV (if isNum L z = true ∧ numD L z = v then (2, 0, u) else (0, 0, 0))) ∧ Below w.heap.size w w' := by
  obtain ⟨R, hR⟩ : ∃ R, ((if isNum L z = true ∧ numD L z = v then (2, 0, u) else (0, 0, 0) : Nat × Int × Nat)) = R := ⟨_, rfl⟩
  rw [hR]
  obtain ⟨p, hp⟩ : ∃ p, w.heap.size = p := ⟨_, rfl⟩
  have hb1 := below_new w (.cells #[.int .u8 0, .int .i64 0, .int .u64 0] 182)
  have hk1 : (w.alloc (.cells #[.int .u8 0, .int .i64 0, .int .u64 0] 182)).heap[p]? = some (.cells #[.int .u8 0, .int .i64 0, .int .u64 0] 182 (0, 0)) := by rw [← hp]; exact heap_alloc_new w _
  have HB := Lib.hid hb1; have HK := Lib.hid hk1; have HA := Lib.hid h; have HP := Lib.hid hp; have HR := Lib.hid hR; have HV := Lib.hid (And.intro hb1' (And.intro hb2 hb3))
  clear hb1 hk1 h hR hb1' hb2 hb3
  go_enter Tryz.func146, Tryz.ntmps146
  go_upto_region 1 with fail
  clear hp
  refine wp_abs (fun w1 => Below w.heap.size w w1 ∧ w1.heap[p]? = some (.cells #[.int .u8 0, .int .i64 0, .int .u64 0] 182 (0, 0))) ⟨HB.out, HK.out⟩ ?_
  rintro w1 ⟨hb1, hx1⟩
  have ha := HA.out.below hb1
  have c2 := ha.c2
  obtain ⟨d0, d1, d2⟩ := cells3 hx1
  have f0 := fun j => frozen_of_row w1 p j _ _ hx1
  have hpl := (Array.getElem?_eq_some_iff.1 hx1).1
  have hpb : w.heap.size ≤ p := by rw [HP.out]; exact Nat.le_refl _
  have HB1 := Lib.hid hb1; have HPB := Lib.hid hpb
  have k0 := cell_later hb1 HV.out.1
  have k1 := cell_later hb1 HV.out.2.1
  have k2 := cell_later hb1 HV.out.2.2
  have hnum := anumber_any ha i hi v
  rw [hz] at hnum
  have HNUM := Lib.hid hnum
  clear hnum hz
  clear hb1 hx1 ha HB HK hpb
  by_cases hc : isNum L z = true ∧ numD L z = v
  · have hr : R = (2, 0, u) := by rw [← HR.out]; exact if_pos hc
    subst hr
    rw [decide_eq_true hc] at HNUM
    clear hc
    go_wp2_with (go_at_call 144; refine HNUM.out.mono ?_; rintro e w2 ⟨rfl, rfl⟩)
    refine bodyPost_ret (v := ansV (2, 0, u)) (by simp [results, Tryz.results146, go_sem, d0, d1, d2, ansV]) rfl ⟨rfl, ?_⟩
    exact (((HB1.out).setCell HPB.out _).setCell HPB.out _).setCell HPB.out _
  · have hr : R = (0, 0, 0) := by rw [← HR.out]; exact if_neg hc
    subst hr
    rw [decide_eq_false hc] at HNUM
    clear hc
    go_wp2_with (go_at_call 144; refine HNUM.out.mono ?_; rintro e w2 ⟨rfl, rfl⟩)
    refine bodyPost_ret (v := ansV (0, 0, 0)) (by simp [results, Tryz.results146, go_sem, d0, d1, d2, ansV]) rfl ⟨rfl, ?_⟩
    exact (((HB1.out).setCell HPB.out _).setCell HPB.out _).setCell HPB.out _
theorem equal_any (h : Asked w xb gb ab ca nb ib 2 L o [x, y]) (b v : Nat) (hb : w.cell? ⟨b, 0, none⟩ = some (.int .u64 v)) :
    Calls Tryz.prog 145 #[.pointer (some ⟨xb, 0, none⟩), .pointer (some ⟨b, 0, none⟩)] w fun e w' => e = .returned (ansV (if x = y then (2, 0, v) else (0, 0, 0))) ∧ Below w.heap.size w w' := by
  obtain ⟨R, hR⟩ : ∃ R, ((if x = y then (2, 0, v) else (0, 0, 0) : Nat × Int × Nat)) = R := ⟨_, rfl⟩
  rw [hR]
  obtain ⟨p, hp⟩ : ∃ p, w.heap.size = p := ⟨_, rfl⟩
  have hb1 := below_new w (.cells #[.int .u8 0, .int .i64 0, .int .u64 0] 182)
  have hk1 : (w.alloc (.cells #[.int .u8 0, .int .i64 0, .int .u64 0] 182)).heap[p]? = some (.cells #[.int .u8 0, .int .i64 0, .int .u64 0] 182 (0, 0)) := by rw [← hp]; exact heap_alloc_new w _
  have HB := Lib.hid hb1; have HK := Lib.hid hk1; have HA := Lib.hid h; have HP := Lib.hid hp; have HR := Lib.hid hR; have HV := Lib.hid hb
  clear hb1 hk1 h hR hb
  go_enter Tryz.func145, Tryz.ntmps145
  go_upto_region 1 with fail
  clear hp
  refine wp_abs (fun w1 => Below w.heap.size w w1 ∧ w1.heap[p]? = some (.cells #[.int .u8 0, .int .i64 0, .int .u64 0] 182 (0, 0))) ⟨HB.out, HK.out⟩ ?_
  rintro w1 ⟨hb1, hx1⟩
  have ha := HA.out.below hb1
  have c2 := ha.c2
  obtain ⟨d0, d1, d2⟩ := cells3 hx1
  have f0 := fun j => frozen_of_row w1 p j _ _ hx1
  have hpl := (Array.getElem?_eq_some_iff.1 hx1).1
  have hpb : w.heap.size ≤ p := by rw [HP.out]; exact Nat.le_refl _
  have HB1 := Lib.hid hb1; have HPB := Lib.hid hpb
  have k0 := cell_later hb1 HV.out
  have a0 : w1.cell? ⟨ab, 0, none⟩ = some (.int .i64 x) := ha.a 0 (by decide)
  have a1 : w1.cell? ⟨ab, 1, none⟩ = some (.int .i64 y) := ha.a 1 (by decide)
  clear hb1 hx1 ha HB HK hpb
  by_cases hc : x = y
  · have hr : R = (2, 0, v) := by rw [← HR.out]; exact if_pos hc
    subst hr
    have hq : (x == y) = true := by rw [beq_iff_eq]; exact hc
    clear hc
    go_wp2
    go_quiet (fail)
    go_wp2
    refine bodyPost_ret (v := ansV (2, 0, v)) (by simp [results, Tryz.results145, go_sem, d0, d1, d2, ansV]) rfl ⟨rfl, ?_⟩
    exact (((below_drewN HB1.out _).setCell HPB.out _).setCell HPB.out _).setCell HPB.out _
  · have hr : R = (0, 0, 0) := by rw [← HR.out]; exact if_neg hc
    subst hr
    have hq : (x == y) = false := by rw [beq_eq_false_iff_ne]; exact hc
    clear hc
    go_wp2
    go_quiet (fail)
    go_wp2
    refine bodyPost_ret (v := ansV (0, 0, 0)) (by simp [results, Tryz.results145, go_sem, d0, d1, d2, ansV]) rfl ⟨rfl, ?_⟩
    exact (((below_drewN HB1.out _).setCell HPB.out _).setCell HPB.out _).setCell HPB.out _
theorem both_any (h : Asked w xb gb ab ca nb ib 2 L o [x, y])  :
    Calls Tryz.prog 135 #[.pointer (some ⟨xb, 0, none⟩)] w fun e w' => e = .returned (ansV (if x = y then (1, x, 0) else (0, 0, 0))) ∧ Below w.heap.size w w' := by
  obtain ⟨R, hR⟩ : ∃ R, ((if x = y then (1, x, 0) else (0, 0, 0) : Nat × Int × Nat)) = R := ⟨_, rfl⟩
  rw [hR]
  obtain ⟨p, hp⟩ : ∃ p, w.heap.size = p := ⟨_, rfl⟩
  have hb1 := below_new w (.cells #[.int .u8 0, .int .i64 0, .int .u64 0] 182)
  have hk1 : (w.alloc (.cells #[.int .u8 0, .int .i64 0, .int .u64 0] 182)).heap[p]? = some (.cells #[.int .u8 0, .int .i64 0, .int .u64 0] 182 (0, 0)) := by rw [← hp]; exact heap_alloc_new w _
  have HB := Lib.hid hb1; have HK := Lib.hid hk1; have HA := Lib.hid h; have HP := Lib.hid hp; have HR := Lib.hid hR
  clear hb1 hk1 h hR
  go_enter Tryz.func135, Tryz.ntmps135
  go_upto_region 1 with fail
  clear hp
  refine wp_abs (fun w1 => Below w.heap.size w w1 ∧ w1.heap[p]? = some (.cells #[.int .u8 0, .int .i64 0, .int .u64 0] 182 (0, 0))) ⟨HB.out, HK.out⟩ ?_
  rintro w1 ⟨hb1, hx1⟩
  have ha := HA.out.below hb1
  have c2 := ha.c2
  obtain ⟨d0, d1, d2⟩ := cells3 hx1
  have f0 := fun j => frozen_of_row w1 p j _ _ hx1
  have hpl := (Array.getElem?_eq_some_iff.1 hx1).1
  have hpb : w.heap.size ≤ p := by rw [HP.out]; exact Nat.le_refl _
  have HB1 := Lib.hid hb1; have HPB := Lib.hid hpb
  have a0 : w1.cell? ⟨ab, 0, none⟩ = some (.int .i64 x) := ha.a 0 (by decide)
  have a1 : w1.cell? ⟨ab, 1, none⟩ = some (.int .i64 y) := ha.a 1 (by decide)
  clear hb1 hx1 ha HB HK hpb
  by_cases hc : x = y
  · have hr : R = (1, x, 0) := by rw [← HR.out]; exact if_pos hc
    subst hr
    have hq : (x == y) = true := by rw [beq_iff_eq]; exact hc
    clear hc
    go_wp2
    go_quiet (fail)
    go_wp2
    refine bodyPost_ret (v := ansV (1, x, 0)) (by simp [results, Tryz.results135, go_sem, d0, d1, d2, ansV]) rfl ⟨rfl, ?_⟩
    exact (((below_drewN HB1.out _).setCell HPB.out _).setCell HPB.out _).setCell HPB.out _
  · have hr : R = (0, 0, 0) := by rw [← HR.out]; exact if_neg hc
    subst hr
    have hq : (x == y) = false := by rw [beq_eq_false_iff_ne]; exact hc
    clear hc
    go_wp2
    go_quiet (fail)
    go_wp2
    refine bodyPost_ret (v := ansV (0, 0, 0)) (by simp [results, Tryz.results135, go_sem, d0, d1, d2, ansV]) rfl ⟨rfl, ?_⟩
    exact (((below_drewN HB1.out _).setCell HPB.out _).setCell HPB.out _).setCell HPB.out _
theorem full_any (h : Asked w xb gb ab ca nb ib 2 L o [x, y]) (hg : Gr w base F I gb W room L) (b k : Nat) (hb : w.cell? ⟨b, 0, none⟩ = some (.int .u8 k)) :
    Calls Tryz.prog 147 #[.pointer (some ⟨xb, 0, none⟩), .pointer (some ⟨b, 0, none⟩)] w fun e w' => e = .returned (ansV (if isNum L y = true ∧ numD L y = 2 ^ W - 1 then (k, x, 2 ^ W - 1) else (0, 0, 0))) ∧ Below w.heap.size w w' := by
  obtain ⟨R, hR⟩ : ∃ R, ((if isNum L y = true ∧ numD L y = 2 ^ W - 1 then (k, x, 2 ^ W - 1) else (0, 0, 0) : Nat × Int × Nat)) = R := ⟨_, rfl⟩
  rw [hR]
  obtain ⟨p, hp⟩ : ∃ p, w.heap.size = p := ⟨_, rfl⟩
  have hb1 := below_new w (.cells #[.int .u8 0, .int .i64 0, .int .u64 0] 182)
  have hk1 : (w.alloc (.cells #[.int .u8 0, .int .i64 0, .int .u64 0] 182)).heap[p]? = some (.cells #[.int .u8 0, .int .i64 0, .int .u64 0] 182 (0, 0)) := by rw [← hp]; exact heap_alloc_new w _
  have HB := Lib.hid hb1; have HK := Lib.hid hk1; have HA := Lib.hid h; have HP := Lib.hid hp; have HR := Lib.hid hR; have HV := Lib.hid hb; have HG := Lib.hid hg
  clear hb1 hk1 h hR hb hg
  go_enter Tryz.func147, Tryz.ntmps147
  go_upto_region 1 with fail
  clear hp
  refine wp_abs (fun w1 => Below w.heap.size w w1 ∧ w1.heap[p]? = some (.cells #[.int .u8 0, .int .i64 0, .int .u64 0] 182 (0, 0))) ⟨HB.out, HK.out⟩ ?_
  rintro w1 ⟨hb1, hx1⟩
  have ha := HA.out.below hb1
  have c2 := ha.c2
  obtain ⟨d0, d1, d2⟩ := cells3 hx1
  have f0 := fun j => frozen_of_row w1 p j _ _ hx1
  have hpl := (Array.getElem?_eq_some_iff.1 hx1).1
  have hpb : w.heap.size ≤ p := by rw [HP.out]; exact Nat.le_refl _
  have HB1 := Lib.hid hb1; have HPB := Lib.hid hpb
  have k0 := cell_later hb1 HV.out
  have a0 : w1.cell? ⟨ab, 0, none⟩ = some (.int .i64 x) := ha.a 0 (by decide)
  have hones : ∀ wx, Below w1.heap.size w1 wx → Calls Tryz.prog 148 #[.pointer (some ⟨xb, 0, none⟩)] wx fun e w' => e = .returned (.int .u64 ((2 ^ W - 1 : Nat) : Int)) ∧ wx = w' := fun wx hb => ones_any (ha.below hb) ((HG.out.later hb1).later hb)
  have hnum := anumber1 ha (2 ^ W - 1)
  obtain ⟨M, hM⟩ : ∃ M : Nat, 2 ^ W - 1 = M := ⟨_, rfl⟩
  rw [hM] at hones hnum HR
  have HONES := Lib.hid hones; have HNUM := Lib.hid hnum
  have n1 : b ≠ p := by have h1 := World.block_lt_of_cell? _ _ HV.out; have h2 := HP.out; simp only at h1; omega
  have n2 : xb ≠ p := by have h1 := World.block_lt_of_cell? _ _ HA.out.c2; have h2 := HP.out; simp only at h1; omega
  have n3 : ab ≠ p := by have h1 := World.block_lt_of_cell? _ _ (HA.out.a 0 (by decide)); have h2 := HP.out; simp only at h1; omega
  have n1' := n1.symm
  have n2' := n2.symm
  have n3' := n3.symm
  clear hb1 hx1 ha HB HK hpb hones hnum hM
  by_cases hc : isNum L y = true ∧ numD L y = M
  · have hr : R = (k, x, M) := by rw [← HR.out]; exact if_pos hc
    subst hr
    rw [decide_eq_true hc] at HNUM
    clear hc
    go_wp2_with (first | (go_at_call 144; refine HNUM.out.mono ?_; rintro e w2 ⟨rfl, rfl⟩) | (go_at_call 148; refine (HONES.out _ (Below.refl _ _)).mono ?_; rintro e w3 ⟨rfl, rfl⟩))
    go_region_held3 (fun w' => w'.cell? ⟨b, 0, none⟩ = some (.int .u8 k) ∧ w'.cell? ⟨xb, 2, none⟩ = some (.slice (some ⟨ab, 0, none⟩) 2 ca) ∧ w'.cell? ⟨ab, 0, none⟩ = some (.int .i64 x)) (first | exact ⟨k0, c2, a0⟩ | exact ⟨by assumption, by assumption, by assumption⟩ | go_keep)
      ((go_at_call 148; refine (HONES.out _ (Below.refl _ _).drew).mono ?_; rintro e w3 ⟨rfl, rfl⟩))
    go_wp2
    refine bodyPost_ret (v := ansV (k, x, M)) (by simp [results, Tryz.results147, go_sem, d0, d1, d2, ansV]) rfl ⟨rfl, ?_⟩
    exact ((((HB1.out).setCell HPB.out _).setCell HPB.out _).setCell HPB.out _).drew
  · have hr : R = (0, 0, 0) := by rw [← HR.out]; exact if_neg hc
    subst hr
    rw [decide_eq_false hc] at HNUM
    clear hc
    go_wp2_with (first | (go_at_call 144; refine HNUM.out.mono ?_; rintro e w2 ⟨rfl, rfl⟩) | (go_at_call 148; refine (HONES.out _ (Below.refl _ _)).mono ?_; rintro e w3 ⟨rfl, rfl⟩))
    refine bodyPost_ret (v := ansV (0, 0, 0)) (by simp [results, Tryz.results147, go_sem, d0, d1, d2, ansV]) rfl ⟨rfl, ?_⟩
    exact (((HB1.out).setCell HPB.out _).setCell HPB.out _).setCell HPB.out _
theorem beyond_any (h : Asked w xb gb ab ca nb ib 2 L o [x, y]) (hg : Gr w base F I gb W room L) :
    Calls Tryz.prog 136 #[.pointer (some ⟨xb, 0, none⟩)] w fun e w' => e = .returned (ansV (if isNum L y = true ∧ W ≤ numD L y then (2, 0, 0) else (0, 0, 0))) ∧ Below w.heap.size w w' := by
  obtain ⟨R, hR⟩ : ∃ R, ((if isNum L y = true ∧ W ≤ numD L y then (2, 0, 0) else (0, 0, 0) : Nat × Int × Nat)) = R := ⟨_, rfl⟩
  rw [hR]
  obtain ⟨p, hp⟩ : ∃ p, w.heap.size = p := ⟨_, rfl⟩
  have hb1 := below_new w (.cells #[.int .u8 0, .int .i64 0, .int .u64 0] 182)
  have hk1 : (w.alloc (.cells #[.int .u8 0, .int .i64 0, .int .u64 0] 182)).heap[p]? = some (.cells #[.int .u8 0, .int .i64 0, .int .u64 0] 182 (0, 0)) := by rw [← hp]; exact heap_alloc_new w _
  have HB := Lib.hid hb1; have HK := Lib.hid hk1; have HA := Lib.hid h; have HP := Lib.hid hp; have HR := Lib.hid hR; have HG := Lib.hid hg; have hW2 := hg.w2
  clear hb1 hk1 h hR hg
  go_enter Tryz.func136, Tryz.ntmps136
  go_upto_region 1 with fail
  clear hp
  refine wp_abs (fun w1 => Below w.heap.size w w1 ∧ w1.heap[p]? = some (.cells #[.int .u8 0, .int .i64 0, .int .u64 0] 182 (0, 0))) ⟨HB.out, HK.out⟩ ?_
  rintro w1 ⟨hb1, hx1⟩
  have ha := HA.out.below hb1
  have c2 := ha.c2
  obtain ⟨d0, d1, d2⟩ := cells3 hx1
  have f0 := fun j => frozen_of_row w1 p j _ _ hx1
  have hpl := (Array.getElem?_eq_some_iff.1 hx1).1
  have hpb : w.heap.size ≤ p := by rw [HP.out]; exact Nat.le_refl _
  have HB1 := Lib.hid hb1; have HPB := Lib.hid hpb
  have c0 := ha.c0
  have c3 := ha.c3
  have c4 := ha.c4
  have i1 : w1.cell? ⟨ib, 1, none⟩ = some (.bool (isNum L y)) := ha.is 1 (by decide)
  have u1 : w1.cell? ⟨nb, 1, none⟩ = some (.int .u64 (numD L y)) := ha.num 1 (by decide)
  have hwq : ∀ n, Calls Tryz.prog 70 #[.pointer (some ⟨gb, 0, none⟩)] (w1.drewN n) fun e w' => e = .returned (.int .i64 W) ∧ ∃ m, w' = w1.drewN m := fun n => (width_any ((HG.out.later hb1).later (below_drewN (Below.refl _ _) n))).mono fun _ _ ⟨a, b⟩ => ⟨a, n, b.symm⟩
  have HWQ := Lib.hid hwq
  obtain ⟨q, hq⟩ : ∃ q, numD L y = q := ⟨_, rfl⟩
  obtain ⟨bo, hbo⟩ : ∃ bo, isNum L y = bo := ⟨_, rfl⟩
  rw [hq] at u1 HR
  rw [hbo] at i1 HR
  clear hb1 hx1 ha HB HK hpb hwq hq hbo
  cases bo with
  | false =>
    have hr : R = (0, 0, 0) := by rw [← HR.out]; exact if_neg (fun h => by cases h.1)
    subst hr
    clear u1
    go_wp2
    go_quiet ((go_at_call 70; exact HWQ.out _))
    go_wp2
    refine bodyPost_ret (v := ansV (0, 0, 0)) (by simp [results, Tryz.results136, go_sem, d0, d1, d2, ansV]) rfl ⟨rfl, ?_⟩
    exact (((below_drewN HB1.out _).setCell HPB.out _).setCell HPB.out _).setCell HPB.out _
  | true =>
    by_cases hc : W ≤ q
    · have hr : R = (2, 0, 0) := by rw [← HR.out]; exact if_pos ⟨rfl, hc⟩
      subst hr
      go_wp2
      go_quiet ((go_at_call 70; exact HWQ.out _))
      go_wp2
      refine bodyPost_ret (v := ansV (2, 0, 0)) (by simp [results, Tryz.results136, go_sem, d0, d1, d2, ansV]) rfl ⟨rfl, ?_⟩
      exact (((below_drewN HB1.out _).setCell HPB.out _).setCell HPB.out _).setCell HPB.out _
    · have hr : R = (0, 0, 0) := by rw [← HR.out]; exact if_neg (fun h => hc h.2)
      subst hr
      go_wp2
      go_quiet ((go_at_call 70; exact HWQ.out _))
      go_wp2
      refine bodyPost_ret (v := ansV (0, 0, 0)) (by simp [results, Tryz.results136, go_sem, d0, d1, d2, ansV]) rfl ⟨rfl, ?_⟩
      exact (((below_drewN HB1.out _).setCell HPB.out _).setCell HPB.out _).setCell HPB.out _
theorem chosen_any {z : Int} (h : Asked w xb gb ab ca nb ib 3 L o [x, y, z])  :
    Calls Tryz.prog 137 #[.pointer (some ⟨xb, 0, none⟩)] w fun e w' => e = .returned (ansV (if y = z then (1, y, 0) else if isNum L x = true then (if numD L x ≠ 0 then (1, y, 0) else (1, z, 0)) else (0, 0, 0))) ∧ Below w.heap.size w w' := by
  obtain ⟨R, hR⟩ : ∃ R, ((if y = z then (1, y, 0) else if isNum L x = true then (if numD L x ≠ 0 then (1, y, 0) else (1, z, 0)) else (0, 0, 0) : Nat × Int × Nat)) = R := ⟨_, rfl⟩
  rw [hR]
  obtain ⟨p, hp⟩ : ∃ p, w.heap.size = p := ⟨_, rfl⟩
  have hb1 := below_new w (.cells #[.int .u8 0, .int .i64 0, .int .u64 0] 182)
  have hk1 : (w.alloc (.cells #[.int .u8 0, .int .i64 0, .int .u64 0] 182)).heap[p]? = some (.cells #[.int .u8 0, .int .i64 0, .int .u64 0] 182 (0, 0)) := by rw [← hp]; exact heap_alloc_new w _
  have HB := Lib.hid hb1; have HK := Lib.hid hk1; have HA := Lib.hid h; have HP := Lib.hid hp; have HR := Lib.hid hR
  clear hb1 hk1 h hR
  go_enter Tryz.func137, Tryz.ntmps137
  go_upto_region 1 with fail
  clear hp
  refine wp_abs (fun w1 => Below w.heap.size w w1 ∧ w1.heap[p]? = some (.cells #[.int .u8 0, .int .i64 0, .int .u64 0] 182 (0, 0))) ⟨HB.out, HK.out⟩ ?_
  rintro w1 ⟨hb1, hx1⟩
  have ha := HA.out.below hb1
  have c2 := ha.c2
  obtain ⟨d0, d1, d2⟩ := cells3 hx1
  have f0 := fun j => frozen_of_row w1 p j _ _ hx1
  have hpl := (Array.getElem?_eq_some_iff.1 hx1).1
  have hpb : w.heap.size ≤ p := by rw [HP.out]; exact Nat.le_refl _
  have HB1 := Lib.hid hb1; have HPB := Lib.hid hpb
  have c3 := ha.c3
  have c4 := ha.c4
  have a1 : w1.cell? ⟨ab, 1, none⟩ = some (.int .i64 y) := ha.a 1 (by decide)
  have a2 : w1.cell? ⟨ab, 2, none⟩ = some (.int .i64 z) := ha.a 2 (by decide)
  have i0 : w1.cell? ⟨ib, 0, none⟩ = some (.bool (isNum L x)) := ha.is 0 (by decide)
  have u0 : w1.cell? ⟨nb, 0, none⟩ = some (.int .u64 (numD L x)) := ha.num 0 (by decide)
  obtain ⟨q, hq⟩ : ∃ q, numD L x = q := ⟨_, rfl⟩
  obtain ⟨bo, hbo⟩ : ∃ bo, isNum L x = bo := ⟨_, rfl⟩
  rw [hq] at u0 HR
  rw [hbo] at i0 HR
  clear hb1 hx1 ha HB HK hpb hq hbo
  by_cases hc : y = z
  · have hr : R = (1, y, 0) := by rw [← HR.out]; exact if_pos hc
    subst hr
    have hq : (y == z) = true := by rw [beq_iff_eq]; exact hc
    clear hc
    go_wp2
    go_quiet (fail)
    go_wp2
    refine bodyPost_ret (v := ansV (1, y, 0)) (by simp [results, Tryz.results137, go_sem, d0, d1, d2, ansV]) rfl ⟨rfl, ?_⟩
    exact (((below_drewN HB1.out _).setCell HPB.out _).setCell HPB.out _).setCell HPB.out _
  · have hq : (y == z) = false := by rw [beq_eq_false_iff_ne]; exact hc
    have hr0 := HR.out
    rw [if_neg hc] at hr0
    have HR0 := Lib.hid hr0
    clear hc hr0
    cases bo with
    | false =>
      have hr : R = (0, 0, 0) := by rw [← HR0.out]; rfl
      subst hr
      go_wp2
      go_quiet (fail)
      go_wp2
      refine bodyPost_ret (v := ansV (0, 0, 0)) (by simp [results, Tryz.results137, go_sem, d0, d1, d2, ansV]) rfl ⟨rfl, ?_⟩
      exact (((below_drewN HB1.out _).setCell HPB.out _).setCell HPB.out _).setCell HPB.out _
    | true =>
      by_cases hz : q = 0
      · have hr : R = (1, z, 0) := by rw [← HR0.out, if_pos rfl, if_neg (fun h => h hz)]
        subst hr
        have hz2 : ((q : Int) != 0) = false := by rw [bne_eq_false_iff_eq]; omega
        clear hz
        go_wp2
        go_quiet (fail)
        go_wp2
        refine bodyPost_ret (v := ansV (1, z, 0)) (by simp [results, Tryz.results137, go_sem, d0, d1, d2, ansV]) rfl ⟨rfl, ?_⟩
        exact (((below_drewN HB1.out _).setCell HPB.out _).setCell HPB.out _).setCell HPB.out _
      · have hr : R = (1, y, 0) := by rw [← HR0.out, if_pos rfl, if_pos hz]
        subst hr
        have hz2 : ((q : Int) != 0) = true := by rw [bne_iff_ne]; omega
        clear hz
        go_wp2
        go_quiet (fail)
        go_wp2
        refine bodyPost_ret (v := ansV (1, y, 0)) (by simp [results, Tryz.results137, go_sem, d0, d1, d2, ansV]) rfl ⟨rfl, ?_⟩
        exact (((below_drewN HB1.out _).setCell HPB.out _).setCell HPB.out _).setCell HPB.out _
end
end Go.Proofs.YteamnchoddegpaaGreatDoor
namespace Go.Proofs.YteamnchoddegpaaGreatDoor
open Go.RowKit Go.Maps
set_option maxHeartbeats 800000
section
variable {w w' : World} {xb gb ab ca nb ib n W room : Nat} {L : List PNode} {o : Nat} {base : Nat} {F I : List Nat}
theorem node_stored {w : World} {q T : Nat} {a b c x y z : Value} (h : w.heap[q]? = some (.cells #[a, b, c] T (0, 0))) :
    (((w.setCell ⟨q, 0, none⟩ x).setCell ⟨q, 1, none⟩ y).setCell ⟨q, 2, none⟩ z).heap[q]? = some (.cells #[x, y, z] T (0, 0)) := by
  have h1 : (w.setCell ⟨q, 0, none⟩ x).heap[q]? = some (.cells #[x, b, c] T (0, 0)) := (heap_setCell_same w q 0 _ _ x h).trans rfl
  have h2 : ((w.setCell ⟨q, 0, none⟩ x).setCell ⟨q, 1, none⟩ y).heap[q]? = some (.cells #[x, y, c] T (0, 0)) := (heap_setCell_same _ q 1 _ _ y h1).trans rfl
  exact (heap_setCell_same _ q 2 _ _ z h2).trans rfl
theorem twice_any {z : Nat} {nd : PNode} (h : Asked w xb gb ab ca nb ib 1 L o [(z : Int)]) (hg : Gr w base F I gb W room L) (hi : L[z]? = some nd) (ho : aryN o = 1) :
    Calls Tryz.prog 130 #[.pointer (some ⟨xb, 0, none⟩)] w fun e w' => e = .returned (ansV (if nd.1 = o then (1, nd.2.2.getD 0 0, 0) else (0, 0, 0))) ∧ Below w.heap.size w w' := by
  obtain ⟨R, hR⟩ : ∃ R, ((if nd.1 = o then (1, nd.2.2.getD 0 0, 0) else (0, 0, 0) : Nat × Int × Nat)) = R := ⟨_, rfl⟩
  rw [hR]
  obtain ⟨p, hp⟩ : ∃ p, w.heap.size = p := ⟨_, rfl⟩
  have hb1 := below_new w (.cells #[.int .u8 0, .int .i64 0, .int .u64 0] 182)
  have hk1 : (w.alloc (.cells #[.int .u8 0, .int .i64 0, .int .u64 0] 182)).heap[p]? = some (.cells #[.int .u8 0, .int .i64 0, .int .u64 0] 182 (0, 0)) := by rw [← hp]; exact heap_alloc_new w _
  have hok := hg.wf.ok nd (List.mem_of_getElem? hi)
  have HB := Lib.hid hb1; have HK := Lib.hid hk1; have HA := Lib.hid h; have HP := Lib.hid hp; have HR := Lib.hid hR; have HG := Lib.hid hg; have HI := Lib.hid hi; have HOK := Lib.hid hok
  clear hb1 hk1 h hR hg hi hok
  go_enter Tryz.func130, Tryz.ntmps130
  go_upto_region 1 with fail
  clear hp
  refine wp_abs (fun w1 => Below w.heap.size w w1 ∧ w1.heap[p]? = some (.cells #[.int .u8 0, .int .i64 0, .int .u64 0] 182 (0, 0))) ⟨HB.out, HK.out⟩ ?_
  rintro w1 ⟨hb1, hx1⟩
  have ha := HA.out.below hb1
  have c0 := ha.c0
  have c2 := ha.c2
  have a0 : w1.cell? ⟨ab, 0, none⟩ = some (.int .i64 (z : Int)) := ha.a 0 (by decide)
  have hpb : w.heap.size ≤ p := by rw [HP.out]; exact Nat.le_refl _
  have HPB := Lib.hid hpb
  have hnode := fun (wx : World) (hb : Below w1.heap.size w1 wx) => node_at ((HG.out.later hb1).later hb) z nd HI.out
  have HN := Lib.hid hnode; have HB1 := Lib.hid hb1; have HX1 := Lib.hid hx1; have HA1 := Lib.hid ha
  clear hb1 hx1 ha HB HK hpb hnode
  go_cut [3] (fun m wx => ∃ q an mn cn, m = .pointer (some ⟨q, 0, none⟩) ∧ wx.heap[q]? = some (.cells #[.int .u8 nd.1, .int .u64 nd.2.1, .slice an mn cn] 88 (0, 0)) ∧ SliceOf wx .i64 (.slice an mn cn) nd.2.2 ∧ Below w1.heap.size w1 wx)
  case first =>
    go_region_held3 (fun w' => w'.cell? ⟨xb, 0, none⟩ = some (.pointer (some ⟨gb, 0, none⟩)) ∧ w'.cell? ⟨xb, 2, none⟩ = some (.slice (some ⟨ab, 0, none⟩) 1 ca) ∧ w'.cell? ⟨ab, 0, none⟩ = some (.int .i64 (z : Int))) (first | exact ⟨c0, c2, a0⟩ | exact ⟨by assumption, by assumption, by assumption⟩ | (refine ⟨?_, ?_, ?_⟩ <;> (rw [World.cell?_setCell_far _ _ _ _ (by assumption), World.cell?_setCell_far _ _ _ _ (by assumption), World.cell?_setCell_far _ _ _ _ (by assumption)]; assumption)) | go_keep)
      (first
        | (go_at_call 67; refine (HN.out _ (by first | exact Below.refl _ _ | exact (Below.refl _ _).drew)).mono ?_; rintro e w3 ⟨va, rfl, hva, hb3⟩; obtain ⟨an, mn, cn, rfl⟩ := hva.val; have k0 := cell_later hb3 c0; have k2 := cell_later hb3 c2; have k3 := cell_later hb3 a0)
        | (go_at_call 67; refine (HN.out _ (below_drewN (below_new _ _) 1)).mono ?_; rintro e w3 ⟨va, rfl, hva, hb3⟩; obtain ⟨an, mn, cn, rfl⟩ := hva.val; have hb5 := (below_drewN (below_new w1 (.cells #[.int .u8 0, .int .u64 0, .slice none 0 0] 88)) 1).trans (hb3.mono (below_drewN (below_new w1 (.cells #[.int .u8 0, .int .u64 0, .slice none 0 0] 88)) 1).size); have k0 := cell_later hb5 c0; have k2 := cell_later hb5 c2; have k3 := cell_later hb5 a0; have hz : w3.heap[w1.heap.size]? = some (.cells #[.int .u8 0, .int .u64 0, .slice none 0 0] 88 (0, 0)) := (hb3.block _ (by show _ < (w1.alloc _).heap.size; unfold World.alloc; rw [Array.size_push]; exact Nat.lt_succ_self _)).trans (heap_alloc_new w1 _); obtain ⟨z0, z1, z2⟩ := cells3 hz; have fz := fun j => frozen_of_row w3 w1.heap.size j _ _ hz; have nz : w1.heap.size ≠ xb := World.new_ne w1 _ c0; have ny : w1.heap.size ≠ ab := World.new_ne w1 _ a0))
    · have hb6 := (below_drewN (Below.refl w1.heap.size w1) 1).trans (hb3.mono (below_drewN (Below.refl w1.heap.size w1) 1).size)
      have hb4 := hb6.alloc hb6.size (.cells #[.int .u8 nd.1, .int .u64 nd.2.1, .slice an mn cn] 88)
      have HQ := Lib.hid (And.intro hva hb4)
      clear hva hb3 hb4 hb6 k0 k2 k3 c0 c2 a0
      go_wp2
      go_meet
      exact ⟨_, an, mn, cn, rfl, heap_alloc_new _ _, HQ.out.1.slice.below (below_new _ _), HQ.out.2⟩
    · have hq1 := node_stored (x := .int .u8 nd.1) (y := .int .u64 nd.2.1) (z := .slice an mn cn) hz
      have hlt : w1.heap.size < ((w1.alloc (.cells #[.int .u8 0, .int .u64 0, .slice none 0 0] 88)).drewN 1).heap.size := by show _ < (w1.alloc _).heap.size; unfold World.alloc; rw [Array.size_push]; exact Nat.lt_succ_self _
      have hq2 := ((((hva.setCell (a := ⟨w1.heap.size, 0, none⟩) hlt (.int .u8 nd.1)).setCell (a := ⟨w1.heap.size, 1, none⟩) hlt (.int .u64 nd.2.1)).setCell (a := ⟨w1.heap.size, 2, none⟩) hlt (.slice an mn cn))).slice
      have hq3 := ((hb5.setCell (p := ⟨w1.heap.size, 0, none⟩) (Nat.le_refl _) (.int .u8 nd.1)).setCell (p := ⟨w1.heap.size, 1, none⟩) (Nat.le_refl _) (.int .u64 nd.2.1)).setCell (p := ⟨w1.heap.size, 2, none⟩) (Nat.le_refl _) (.slice an mn cn)
      go_wp2
      go_meet
      exact ⟨_, an, mn, cn, rfl, hq1, hq2, hq3⟩
  case rest =>
    obtain ⟨q, an, mn, cn, rfl, hq, hs, hbc⟩ := hcut
    have hb2 := HB1.out.trans (hbc.mono HB1.out.size)
    have hx2 : wc.heap[p]? = _ := (hbc.block p (Array.getElem?_eq_some_iff.1 HX1.out).1).trans HX1.out
    obtain ⟨d0, d1, d2⟩ := cells3 hx2
    obtain ⟨g0, g1, g2⟩ := cells3 hq
    have f0 := fun j => frozen_of_row wc p j _ _ hx2
    have hpl := (Array.getElem?_eq_some_iff.1 hx2).1
    have c1 := cell_later hbc HA1.out.c1
    have hl1 := HOK.out.2.2
    obtain ⟨op, num, ys⟩ := nd
    simp only at hq hs g0 g1 g2 hl1 HR
    have HB2 := Lib.hid hb2; have HS := Lib.hid hs; have HL1 := Lib.hid hl1
    clear hq hs hbc hb2 hx2 hl1
    by_cases hc : op = o
    · subst hc
      obtain ⟨y, rfl⟩ : ∃ y, ys = [y] := by
        have := HL1.out
        rw [ho] at this
        match ys, this with
        | [y], _ => exact ⟨y, rfl⟩
      have hr : R = (1, y, 0) := by rw [← HR.out]; exact if_pos rfl
      subst hr
      obtain ⟨b0, off, u, rfl, hcc, hu⟩ := HS.out.parts' (i := 0) (by obtain ⟨_, _, _, e, hl, _⟩ := HS.out; simp only [Value.slice.injEq] at e; have : ([y] : List Int).length = 1 := rfl; omega)
      obtain rfl : y = u := by simpa using hu
      rw [Nat.add_zero] at hcc
      have hmn : (0 : Int) < (mn : Int) := by obtain ⟨_, _, _, e, hl, _⟩ := HS.out; simp only [Value.slice.injEq] at e; have : ([y] : List Int).length = 1 := rfl; omega
      have hq : ((op : Int) == (op : Int)) = true := by simp
      clear hu
      go_wp2
      go_quiet (fail)
      go_wp2
      refine bodyPost_ret (v := ansV (1, y, 0)) (by simp [results, Tryz.results130, go_sem, d0, d1, d2, ansV]) rfl ⟨rfl, ?_⟩
      exact (((below_drewN HB2.out _).setCell HPB.out _).setCell HPB.out _).setCell HPB.out _
    · have hr : R = (0, 0, 0) := by rw [← HR.out]; exact if_neg hc
      subst hr
      have hq : ((op : Int) == (o : Int)) = false := by rw [beq_eq_false_iff_ne]; omega
      clear hc
      go_wp2
      go_quiet (fail)
      go_wp2
      refine bodyPost_ret (v := ansV (0, 0, 0)) (by simp [results, Tryz.results130, go_sem, d0, d1, d2, ansV]) rfl ⟨rfl, ?_⟩
      exact (((below_drewN HB2.out _).setCell HPB.out _).setCell HPB.out _).setCell HPB.out _
end
end Go.Proofs.YteamnchoddegpaaGreatDoor
namespace Go.Proofs.YteamnchoddegpaaGreatDoor
open Go.RowKit Go.Maps
set_option maxHeartbeats 800000
/-- The rules, by name. -/
inductive Rul where
  | twice
  | neutral (v : Nat)
  | fixed (i v u : Nat)
  | equal (v : Nat)
  | both
  | full (k : Nat)
  | beyond
  | chosen
/-- A rule in memory, its boxes not in block mb. -/
def RulV (w : World) (mb : Nat) : Rul → Value → Prop
  | .twice, f => f = .func (.func 130) #[] #[]
  | .neutral v, f => ∃ b, f = .func (.func 143) #[] #[.pointer (some ⟨b, 0, none⟩)] ∧ w.cell? ⟨b, 0, none⟩ = some (.int .u64 v) ∧ b ≠ mb
  | .fixed i v u, f => ∃ b1 b2 b3, f = .func (.func 146) #[] #[.pointer (some ⟨b1, 0, none⟩), .pointer (some ⟨b2, 0, none⟩), .pointer (some ⟨b3, 0, none⟩)] ∧ w.cell? ⟨b1, 0, none⟩ = some (.int .i64 i) ∧ w.cell? ⟨b2, 0, none⟩ = some (.int .u64 v) ∧ w.cell? ⟨b3, 0, none⟩ = some (.int .u64 u) ∧ b1 ≠ mb ∧ b2 ≠ mb ∧ b3 ≠ mb
  | .equal v, f => ∃ b, f = .func (.func 145) #[] #[.pointer (some ⟨b, 0, none⟩)] ∧ w.cell? ⟨b, 0, none⟩ = some (.int .u64 v) ∧ b ≠ mb
  | .both, f => f = .func (.func 135) #[] #[]
  | .full k, f => ∃ b, f = .func (.func 147) #[] #[.pointer (some ⟨b, 0, none⟩)] ∧ w.cell? ⟨b, 0, none⟩ = some (.int .u8 k) ∧ b ≠ mb
  | .beyond, f => f = .func (.func 136) #[] #[]
  | .chosen, f => f = .func (.func 137) #[] #[]
section
variable {w w' : World} {mb : Nat}
theorem RulV.of_cells {r : Rul} {f : Value} (h : RulV w mb r f) (hc : ∀ (b : Nat) x, b ≠ mb → w.cell? ⟨b, 0, none⟩ = some x → w'.cell? ⟨b, 0, none⟩ = some x) : RulV w' mb r f := by
  cases r with
  | twice => exact h
  | neutral v => obtain ⟨b, h1, h2, h3⟩ := h; exact ⟨b, h1, hc _ _ h3 h2, h3⟩
  | fixed i v u => obtain ⟨b1, b2, b3, h1, h2, h3, h4, h5, h6, h7⟩ := h; exact ⟨b1, b2, b3, h1, hc _ _ h5 h2, hc _ _ h6 h3, hc _ _ h7 h4, h5, h6, h7⟩
  | equal v => obtain ⟨b, h1, h2, h3⟩ := h; exact ⟨b, h1, hc _ _ h3 h2, h3⟩
  | both => exact h
  | full k => obtain ⟨b, h1, h2, h3⟩ := h; exact ⟨b, h1, hc _ _ h3 h2, h3⟩
  | beyond => exact h
  | chosen => exact h
theorem RulV.below {r : Rul} {f : Value} (h : RulV w mb r f) (hb : Below w.heap.size w w') : RulV w' mb r f := h.of_cells fun _ _ _ hx => cell_later hb hx
theorem RulV.but {r : Rul} {f : Value} (h : RulV w mb r f) (hb : But mb w w') : RulV w' mb r f := h.of_cells fun b _x hne hx => (hb.cell (a := ⟨b, 0, none⟩) hne).trans hx
/-- A row of rules. -/
def RowR (w : World) (mb sb : Nat) (rs : List Rul) : Prop := sb ≠ mb ∧ ∀ (i : Nat) r, rs[i]? = some r → ∃ f, w.cell? ⟨sb, i, none⟩ = some f ∧ RulV w mb r f
theorem RowR.below {sb : Nat} {rs : List Rul} (h : RowR w mb sb rs) (hb : Below w.heap.size w w') : RowR w' mb sb rs :=
  ⟨h.1, fun i r hr => by obtain ⟨f, h1, h2⟩ := h.2 i r hr; exact ⟨f, cell_later hb h1, h2.below hb⟩⟩
theorem RowR.but {sb : Nat} {rs : List Rul} (h : RowR w mb sb rs) (hb : But mb w w') : RowR w' mb sb rs :=
  ⟨h.1, fun i r hr => by obtain ⟨f, h1, h2⟩ := h.2 i r hr; exact ⟨f, (hb.cell (a := ⟨sb, i, none⟩) h.1).trans h1, h2.but hb⟩⟩
/-- A map of rules that is being made. -/
structure RMap (w0 w : World) (mb : Nat) (done : List (Nat × List Rul)) : Prop where
  below : Below w0.heap.size w0 w
  new : w0.heap.size ≤ mb
  map : ∃ f c, MapF Tryz.prog 5 .u8 w mb f c ∧ ∀ p ∈ done, ∃ sb, f (p.1 : Int) = some (.slice (some ⟨sb, 0, none⟩) p.2.length p.2.length) ∧ RowR w mb sb p.2
variable {w0 : World} {done : List (Nat × List Rul)}
theorem RMap.start (w : World) : RMap w (w.alloc (.map #[] 0)) w.heap.size [] := ⟨below_new w _, Nat.le_refl _, _, _, MapF.new _ _ _ _, by simp⟩
theorem RMap.lt (h : RMap w0 w mb done) : mb < w.heap.size := by obtain ⟨f, c, hm, -⟩ := h.map; exact hm.lt
theorem RMap.later (h : RMap w0 w mb done) (hb : Below w.heap.size w w') : RMap w0 w' mb done := by
  obtain ⟨f, c, hm, hd⟩ := h.map
  refine ⟨h.below.trans (hb.mono h.below.size), h.new, f, c, hm.block (hb.block _ hm.lt), fun p hp => ?_⟩
  obtain ⟨sb, h1, h2⟩ := hd p hp
  exact ⟨sb, h1, h2.below hb⟩
/-- One entry: a slice of rules, put into the map. -/
theorem RMap.entry (h : RMap w0 w mb done) (o : Nat) (k : Int) (hk : k = (o : Int)) (ho : o ≤ 255) (hn : ∀ p ∈ done, p.1 ≠ o) (vs : Array Value) (rs : List Rul) (n : Nat) (hl : rs.length = n) (hv : ∀ (i : Nat) r, rs[i]? = some r → ∃ f, vs[i]? = some f ∧ RulV w mb r f) :
    ∃ w', (Instr.mapUpdate 195 (.map (some mb)) (.int .u8 k) (.slice (some ⟨w.heap.size, 0, none⟩) n n)).run Tryz.prog (w.alloc (.cells vs 180)) = .ok () w' ∧ RMap w0 w' mb ((o, rs) :: done) := by
  obtain ⟨T, hT⟩ : ∃ T, 180 = T := ⟨_, rfl⟩
  rw [hT]
  clear hT
  subst hk
  subst hl
  have h1 := h.later (below_new w (.cells vs T))
  obtain ⟨f, c, hm, hd⟩ := h1.map
  obtain ⟨hr, hm2, hbut⟩ := hm.put (T := 195) (E := 178) Tryz.underlying5 Tryz.underlying195 (k := (o : Int)) (by simp [Lit.wf, IntKind.min, IntKind.max, IntKind.signed, IntKind.bits]; omega) (.slice (some ⟨w.heap.size, 0, none⟩) rs.length rs.length)
  refine ⟨_, hr, hbut.below h.new h1.below, h.new, _, _, hm2, fun p hp => ?_⟩
  rcases List.mem_cons.1 hp with rfl | hp
  · refine ⟨w.heap.size, if_pos rfl, RowR.but (w := w.alloc (.cells vs T)) ⟨Nat.ne_of_gt h.lt, fun i r hi => ?_⟩ hbut⟩
    obtain ⟨g, hg, hrv⟩ := hv i r hi
    refine ⟨g, ?_, hrv.below (below_new w _)⟩
    rw [World.cell?_alloc_at _ _ _ _ rfl]
    exact hg
  · obtain ⟨sb, q1, q2⟩ := hd p hp
    refine ⟨sb, ?_, q2.but hbut⟩
    show (if (p.1 : Int) = (o : Int) then _ else f (p.1 : Int)) = _
    rw [if_neg (by have := hn p hp; omega)]
    exact q1
end
section
variable {mb : Nat}
theorem neutral_make (v : Nat) (w : World) (hm : mb < w.heap.size) :
    Calls Tryz.prog 131 #[.int .u64 v] w fun e w' => ∃ f, e = .returned f ∧ RulV w' mb (.neutral v) f ∧ Below w.heap.size w w' := by
  have hne : w.heap.size ≠ mb := Nat.ne_of_gt hm
  go_enter Tryz.func131, Tryz.ntmps131
  go_wp2
  go_ret
  exact ⟨_, rfl, ⟨_, rfl, by rw [World.cell?_alloc_at _ _ _ _ rfl]; rfl, hne⟩, below_new _ _⟩
theorem equal_make (v : Nat) (w : World) (hm : mb < w.heap.size) :
    Calls Tryz.prog 132 #[.int .u64 v] w fun e w' => ∃ f, e = .returned f ∧ RulV w' mb (.equal v) f ∧ Below w.heap.size w w' := by
  have hne : w.heap.size ≠ mb := Nat.ne_of_gt hm
  go_enter Tryz.func132, Tryz.ntmps132
  go_wp2
  go_ret
  exact ⟨_, rfl, ⟨_, rfl, by rw [World.cell?_alloc_at _ _ _ _ rfl]; rfl, hne⟩, below_new _ _⟩
theorem full_make (v : Nat) (w : World) (hm : mb < w.heap.size) :
    Calls Tryz.prog 134 #[.int .u8 v] w fun e w' => ∃ f, e = .returned f ∧ RulV w' mb (.full v) f ∧ Below w.heap.size w w' := by
  have hne : w.heap.size ≠ mb := Nat.ne_of_gt hm
  go_enter Tryz.func134, Tryz.ntmps134
  go_wp2
  go_ret
  exact ⟨_, rfl, ⟨_, rfl, by rw [World.cell?_alloc_at _ _ _ _ rfl]; rfl, hne⟩, below_new _ _⟩
theorem alsz (w : World) (o : Obj) : (w.alloc o).heap.size = w.heap.size + 1 := by unfold World.alloc; exact Array.size_push _
theorem fixed_make (i v u : Nat) (w : World) (hm : mb < w.heap.size) :
    Calls Tryz.prog 133 #[.int .i64 i, .int .u64 v, .int .u64 u] w fun e w' => ∃ f, e = .returned f ∧ RulV w' mb (.fixed i v u) f ∧ Below w.heap.size w w' := by
  have b1 := below_new w (.cells #[.int .i64 i] 3)
  have b2 := below_new (w.alloc (.cells #[.int .i64 i] 3)) (.cells #[.int .u64 v] 43)
  have b3 := below_new ((w.alloc (.cells #[.int .i64 i] 3)).alloc (.cells #[.int .u64 v] 43)) (.cells #[.int .u64 u] 43)
  have c1 : (w.alloc (.cells #[.int .i64 i] 3)).cell? ⟨w.heap.size, 0, none⟩ = some (.int .i64 i) := by rw [World.cell?_alloc_at _ _ _ _ rfl]; rfl
  have c2 : ((w.alloc (.cells #[.int .i64 i] 3)).alloc (.cells #[.int .u64 v] 43)).cell? ⟨w.heap.size + 1, 0, none⟩ = some (.int .u64 v) := by rw [World.cell?_alloc_at _ _ _ _ (alsz _ _).symm]; rfl
  have c3 : (((w.alloc (.cells #[.int .i64 i] 3)).alloc (.cells #[.int .u64 v] 43)).alloc (.cells #[.int .u64 u] 43)).cell? ⟨w.heap.size + 1 + 1, 0, none⟩ = some (.int .u64 u) := by rw [World.cell?_alloc_at _ _ _ _ (by rw [alsz, alsz])]; rfl
  have HH := Lib.hid (And.intro c1 (And.intro c2 (And.intro c3 (And.intro b1 (And.intro b2 b3)))))
  have s1 := b1.size
  have s2 := b2.size
  have h1 : w.heap.size ≠ mb := Nat.ne_of_gt hm
  have h2 : w.heap.size + 1 ≠ mb := by omega
  have h3 : w.heap.size + 1 + 1 ≠ mb := by omega
  have HN := Lib.hid (And.intro h1 (And.intro h2 h3))
  have HS := Lib.hid (And.intro s1 s2)
  clear b1 b2 b3 c1 c2 c3 s1 s2 h1 h2 h3
  go_enter Tryz.func133, Tryz.ntmps133
  go_wp2
  go_ret
  exact ⟨_, rfl, ⟨_, _, _, rfl, cell_later HH.out.2.2.2.2.2 (cell_later HH.out.2.2.2.2.1 HH.out.1), cell_later HH.out.2.2.2.2.2 HH.out.2.1, HH.out.2.2.1, HN.out.1, HN.out.2.1, HN.out.2.2⟩, (HH.out.2.2.2.1.trans (HH.out.2.2.2.2.1.mono HS.out.1)).trans (HH.out.2.2.2.2.2.mono (Nat.le_trans HS.out.1 HS.out.2))⟩
end
end Go.Proofs.YteamnchoddegpaaGreatDoor
