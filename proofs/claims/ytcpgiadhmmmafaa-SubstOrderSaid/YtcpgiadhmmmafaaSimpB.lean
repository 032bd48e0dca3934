/- Package simp: the rules one by one. -/
import Derived.Test.YtcpgiadhmmmafaaSimpA
namespace Go.Proofs.Ytcpgiadhmmmafaa
open Go.RowKit Go.Maps
set_option maxHeartbeats 800000

/-- An answer of a rule: its kind, a term, a number. -/
def ansV (r : Nat × Int × Nat) : Value := .agg #[.int .u8 r.1, .int .i64 r.2.1, .int .u64 r.2.2]
section
variable {w w' : World} {xb gb ab ca nb ib n W room : Nat} {L : List PNode} {o : Nat} {x y : Int} {base : Nat} {F I : List Nat}
theorem anumber1 (h : Asked w xb gb ab ca nb ib 2 L o [x, y]) (v : Nat) :
    Calls Try.prog 111 #[.pointer (some ⟨xb, 0, none⟩), .int .i64 1, .int .u64 v] w fun e w' => e = .returned (.bool (decide (isNum L y = true ∧ numD L y = v))) ∧ w = w' := anumber_any h 1 (by decide) v
theorem neutral_any (h : Asked w xb gb ab ca nb ib 2 L o [x, y]) (b v : Nat) (hb : w.cell? ⟨b, 0, none⟩ = some (.int .u64 v)) :
    Calls Try.prog 110 #[.pointer (some ⟨xb, 0, none⟩), .pointer (some ⟨b, 0, none⟩)] w fun e w' => e = .returned (ansV (if isNum L (y) = true ∧ numD L (y) = v then (1, x, 0) else (0, 0, 0))) ∧ Below w.heap.size w w' := by
  obtain ⟨R, hR⟩ : ∃ R, ((if isNum L (y) = true ∧ numD L (y) = v then (1, x, 0) else (0, 0, 0) : Nat × Int × Nat)) = R := ⟨_, rfl⟩
  rw [hR]
  obtain ⟨p, hp⟩ : ∃ p, w.heap.size = p := ⟨_, rfl⟩
  have hb1 := below_new w (.cells #[.int .u8 0, .int .i64 0, .int .u64 0] 123)
  have hk1 : (w.alloc (.cells #[.int .u8 0, .int .i64 0, .int .u64 0] 123)).heap[p]? = some (.cells #[.int .u8 0, .int .i64 0, .int .u64 0] 123 (0, 0)) := by rw [← hp]; exact heap_alloc_new w _
  have HB := Lib.hid hb1; have HK := Lib.hid hk1; have HA := Lib.hid h; have HP := Lib.hid hp; have HR := Lib.hid hR; have HV := Lib.hid hb
  clear hb1 hk1 h hR hb
  go_enter Try.func110, Try.ntmps110
  go_upto_region 1 with fail
  clear hp
  refine wp_abs (fun w1 => Below w.heap.size w w1 ∧ w1.heap[p]? = some (.cells #[.int .u8 0, .int .i64 0, .int .u64 0] 123 (0, 0))) ⟨HB.out, HK.out⟩ ?_
  rintro w1 ⟨hb1, hx1⟩
  have ha := HA.out.below hb1
  have c2 := ha.c2
  obtain ⟨d0, d1, d2⟩ := cells3 hx1
  have f0 := fun j => frozen_of_row w1 p j _ _ hx1
  have hpl := (Array.getElem?_eq_some_iff.1 hx1).1
  have hpb : w.heap.size ≤ p := by rw [HP.out]; exact Nat.le_refl _
  have HB1 := Lib.hid hb1; have HPB := Lib.hid hpb
  have k0 := cell_later hb1 HV.out
  have a0 : w1.cell? ⟨ab, 0, none⟩ = some (.int .i64 x) := ha.a 0 (by decide)
  have HNUM := Lib.hid (anumber1 ha v)
  clear hb1 hx1 ha HB HK hpb
  by_cases hc : isNum L (y) = true ∧ numD L (y) = v
  · have hr : R = (1, x, 0) := by rw [← HR.out]; exact if_pos hc
    subst hr
    rw [decide_eq_true hc] at HNUM
    clear hc
    go_wp2_with (go_at_call 111; refine HNUM.out.mono ?_; rintro e w2 ⟨rfl, rfl⟩)
    refine bodyPost_ret (v := ansV (1, x, 0)) (by simp [results, Try.results110, go_sem, d0, d1, d2, ansV]) rfl ⟨rfl, ?_⟩
    exact (((HB1.out).setCell HPB.out _).setCell HPB.out _).setCell HPB.out _
  · have hr : R = (0, 0, 0) := by rw [← HR.out]; exact if_neg hc
    subst hr
    rw [decide_eq_false hc] at HNUM
    clear hc
    go_wp2_with (go_at_call 111; refine HNUM.out.mono ?_; rintro e w2 ⟨rfl, rfl⟩)
    refine bodyPost_ret (v := ansV (0, 0, 0)) (by simp [results, Try.results110, go_sem, d0, d1, d2, ansV]) rfl ⟨rfl, ?_⟩
    exact (((HB1.out).setCell HPB.out _).setCell HPB.out _).setCell HPB.out _
theorem fixed_any (h : Asked w xb gb ab ca nb ib 2 L o [x, y]) (b1 b2 b3 i v u : Nat) (hi : i < 2) (z : Int) (hz : [x, y].getD i 0 = z) (hb1' : w.cell? ⟨b1, 0, none⟩ = some (.int .i64 i)) (hb2 : w.cell? ⟨b2, 0, none⟩ = some (.int .u64 v)) (hb3 : w.cell? ⟨b3, 0, none⟩ = some (.int .u64 u)) :
    Calls Try.prog 113 #[.pointer (some ⟨xb, 0, none⟩), .pointer (some ⟨b1, 0, none⟩), .pointer (some ⟨b2, 0, none⟩), .pointer (some ⟨b3, 0, none⟩)] w fun e w' => e = .returned (ansV (if isNum L z = true ∧ numD L z = v then (2, 0, u) else (0, 0, 0))) ∧ Below w.heap.size w w' := by
  obtain ⟨R, hR⟩ : ∃ R, ((if isNum L z = true ∧ numD L z = v then (2, 0, u) else (0, 0, 0) : Nat × Int × Nat)) = R := ⟨_, rfl⟩
  rw [hR]
  obtain ⟨p, hp⟩ : ∃ p, w.heap.size = p := ⟨_, rfl⟩
  have hb1 := below_new w (.cells #[.int .u8 0, .int .i64 0, .int .u64 0] 123)
  have hk1 : (w.alloc (.cells #[.int .u8 0, .int .i64 0, .int .u64 0] 123)).heap[p]? = some (.cells #[.int .u8 0, .int .i64 0, .int .u64 0] 123 (0, 0)) := by rw [← hp]; exact heap_alloc_new w _
  have HB := Lib.hid hb1; have HK := Lib.hid hk1; have HA := Lib.hid h; have HP := Lib.hid hp; have HR := Lib.hid hR; have HV := Lib.hid (And.intro hb1' (And.intro hb2 hb3))
  clear hb1 hk1 h hR hb1' hb2 hb3
  go_enter Try.func113, Try.ntmps113
  go_upto_region 1 with fail
  clear hp
  refine wp_abs (fun w1 => Below w.heap.size w w1 ∧ w1.heap[p]? = some (.cells #[.int .u8 0, .int .i64 0, .int .u64 0] 123 (0, 0))) ⟨HB.out, HK.out⟩ ?_
  rintro w1 ⟨hb1, hx1⟩
  have ha := HA.out.below hb1
  have c2 := ha.c2
  obtain ⟨d0, d1, d2⟩ := cells3 hx1
  have f0 := fun j => frozen_of_row w1 p j _ _ hx1
  have hpl := (Array.getElem?_eq_some_iff.1 hx1).1
  have hpb : w.heap.size ≤ p := by rw [HP.out]; exact Nat.le_refl _
  have HB1 := Lib.hid hb1; have HPB := Lib.hid hpb
  have k0 := cell_later hb1 HV.out.1
  have k1 := cell_later hb1 HV.out.2.1
  have k2 := cell_later hb1 HV.out.2.2
  have hnum := anumber_any ha i hi v
  rw [hz] at hnum
  have HNUM := Lib.hid hnum
  clear hnum hz
  clear hb1 hx1 ha HB HK hpb
  by_cases hc : isNum L z = true ∧ numD L z = v
  · have hr : R = (2, 0, u) := by rw [← HR.out]; exact if_pos hc
    subst hr
    rw [decide_eq_true hc] at HNUM
    clear hc
    go_wp2_with (go_at_call 111; refine HNUM.out.mono ?_; rintro e w2 ⟨rfl, rfl⟩)
    refine bodyPost_ret (v := ansV (2, 0, u)) (by simp [results, Try.results113, go_sem, d0, d1, d2, ansV]) rfl ⟨rfl, ?_⟩
    exact (((HB1.out).setCell HPB.out _).setCell HPB.out _).setCell HPB.out _
  · have hr : R = (0, 0, 0) := by rw [← HR.out]; exact if_neg hc
    subst hr
    rw [decide_eq_false hc] at HNUM
    clear hc
    go_wp2_with (go_at_call 111; refine HNUM.out.mono ?_; rintro e w2 ⟨rfl, rfl⟩)
    refine bodyPost_ret (v := ansV (0, 0, 0)) (by simp [results, Try.results113, go_sem, d0, d1, d2, ansV]) rfl ⟨rfl, ?_⟩
    exact (((HB1.out).setCell HPB.out _).setCell HPB.out _).setCell HPB.out _
theorem equal_any (h : Asked w xb gb ab ca nb ib 2 L o [x, y]) (b v : Nat) (hb : w.cell? ⟨b, 0, none⟩ = some (.int .u64 v)) :
    Calls Try.prog 112 #[.pointer (some ⟨xb, 0, none⟩), .pointer (some ⟨b, 0, none⟩)] w fun e w' => e = .returned (ansV (if x = y then (2, 0, v) else (0, 0, 0))) ∧ Below w.heap.size w w' := by
  obtain ⟨R, hR⟩ : ∃ R, ((if x = y then (2, 0, v) else (0, 0, 0) : Nat × Int × Nat)) = R := ⟨_, rfl⟩
  rw [hR]
  obtain ⟨p, hp⟩ : ∃ p, w.heap.size = p := ⟨_, rfl⟩
  have hb1 := below_new w (.cells #[.int .u8 0, .int .i64 0, .int .u64 0] 123)
  have hk1 : (w.alloc (.cells #[.int .u8 0, .int .i64 0, .int .u64 0] 123)).heap[p]? = some (.cells #[.int .u8 0, .int .i64 0, .int .u64 0] 123 (0, 0)) := by rw [← hp]; exact heap_alloc_new w _
  have HB := Lib.hid hb1; have HK := Lib.hid hk1; have HA := Lib.hid h; have HP := Lib.hid hp; have HR := Lib.hid hR; have HV := Lib.hid hb
  clear hb1 hk1 h hR hb
  go_enter Try.func112, Try.ntmps112
  go_upto_region 1 with fail
  clear hp
  refine wp_abs (fun w1 => Below w.heap.size w w1 ∧ w1.heap[p]? = some (.cells #[.int .u8 0, .int .i64 0, .int .u64 0] 123 (0, 0))) ⟨HB.out, HK.out⟩ ?_
  rintro w1 ⟨hb1, hx1⟩
  have ha := HA.out.below hb1
  have c2 := ha.c2
  obtain ⟨d0, d1, d2⟩ := cells3 hx1
  have f0 := fun j => frozen_of_row w1 p j _ _ hx1
  have hpl := (Array.getElem?_eq_some_iff.1 hx1).1
  have hpb : w.heap.size ≤ p := by rw [HP.out]; exact Nat.le_refl _
  have HB1 := Lib.hid hb1; have HPB := Lib.hid hpb
  have k0 := cell_later hb1 HV.out
  have a0 : w1.cell? ⟨ab, 0, none⟩ = some (.int .i64 x) := ha.a 0 (by decide)
  have a1 : w1.cell? ⟨ab, 1, none⟩ = some (.int .i64 y) := ha.a 1 (by decide)
  clear hb1 hx1 ha HB HK hpb
  by_cases hc : x = y
  · have hr : R = (2, 0, v) := by rw [← HR.out]; exact if_pos hc
    subst hr
    have hq : (x == y) = true := by rw [beq_iff_eq]; exact hc
    clear hc
    go_wp2
    go_quiet (fail)
    go_wp2
    refine bodyPost_ret (v := ansV (2, 0, v)) (by simp [results, Try.results112, go_sem, d0, d1, d2, ansV]) rfl ⟨rfl, ?_⟩
    exact (((below_drewN HB1.out _).setCell HPB.out _).setCell HPB.out _).setCell HPB.out _
  · have hr : R = (0, 0, 0) := by rw [← HR.out]; exact if_neg hc
    subst hr
    have hq : (x == y) = false := by rw [beq_eq_false_iff_ne]; exact hc
    clear hc
    go_wp2
    go_quiet (fail)
    go_wp2
    refine bodyPost_ret (v := ansV (0, 0, 0)) (by simp [results, Try.results112, go_sem, d0, d1, d2, ansV]) rfl ⟨rfl, ?_⟩
    exact (((below_drewN HB1.out _).setCell HPB.out _).setCell HPB.out _).setCell HPB.out _
theorem both_any (h : Asked w xb gb ab ca nb ib 2 L o [x, y])  :
    Calls Try.prog 84 #[.pointer (some ⟨xb, 0, none⟩)] w fun e w' => e = .returned (ansV (if x = y then (1, x, 0) else (0, 0, 0))) ∧ Below w.heap.size w w' := by
  obtain ⟨R, hR⟩ : ∃ R, ((if x = y then (1, x, 0) else (0, 0, 0) : Nat × Int × Nat)) = R := ⟨_, rfl⟩
  rw [hR]
  obtain ⟨p, hp⟩ : ∃ p, w.heap.size = p := ⟨_, rfl⟩
  have hb1 := below_new w (.cells #[.int .u8 0, .int .i64 0, .int .u64 0] 123)
  have hk1 : (w.alloc (.cells #[.int .u8 0, .int .i64 0, .int .u64 0] 123)).heap[p]? = some (.cells #[.int .u8 0, .int .i64 0, .int .u64 0] 123 (0, 0)) := by rw [← hp]; exact heap_alloc_new w _
  have HB := Lib.hid hb1; have HK := Lib.hid hk1; have HA := Lib.hid h; have HP := Lib.hid hp; have HR := Lib.hid hR
  clear hb1 hk1 h hR
  go_enter Try.func84, Try.ntmps84
  go_upto_region 1 with fail
  clear hp
  refine wp_abs (fun w1 => Below w.heap.size w w1 ∧ w1.heap[p]? = some (.cells #[.int .u8 0, .int .i64 0, .int .u64 0] 123 (0, 0))) ⟨HB.out, HK.out⟩ ?_
  rintro w1 ⟨hb1, hx1⟩
  have ha := HA.out.below hb1
  have c2 := ha.c2
  obtain ⟨d0, d1, d2⟩ := cells3 hx1
  have f0 := fun j => frozen_of_row w1 p j _ _ hx1
  have hpl := (Array.getElem?_eq_some_iff.1 hx1).1
  have hpb : w.heap.size ≤ p := by rw [HP.out]; exact Nat.le_refl _
  have HB1 := Lib.hid hb1; have HPB := Lib.hid hpb
  have a0 : w1.cell? ⟨ab, 0, none⟩ = some (.int .i64 x) := ha.a 0 (by decide)
  have a1 : w1.cell? ⟨ab, 1, none⟩ = some (.int .i64 y) := ha.a 1 (by decide)
  clear hb1 hx1 ha HB HK hpb
  by_cases hc : x = y
  · have hr : R = (1, x, 0) := by rw [← HR.out]; exact if_pos hc
    subst hr
    have hq : (x == y) = true := by rw [beq_iff_eq]; exact hc
    clear hc
    go_wp2
    go_quiet (fail)
    go_wp2
    refine bodyPost_ret (v := ansV (1, x, 0)) (by simp [results, Try.results84, go_sem, d0, d1, d2, ansV]) rfl ⟨rfl, ?_⟩
    exact (((below_drewN HB1.out _).setCell HPB.out _).setCell HPB.out _).setCell HPB.out _
  · have hr : R = (0, 0, 0) := by rw [← HR.out]; exact if_neg hc
    subst hr
    have hq : (x == y) = false := by rw [beq_eq_false_iff_ne]; exact hc
    clear hc
    go_wp2
    go_quiet (fail)
    go_wp2
    refine bodyPost_ret (v := ansV (0, 0, 0)) (by simp [results, Try.results84, go_sem, d0, d1, d2, ansV]) rfl ⟨rfl, ?_⟩
    exact (((below_drewN HB1.out _).setCell HPB.out _).setCell HPB.out _).setCell HPB.out _
theorem full_any (h : Asked w xb gb ab ca nb ib 2 L o [x, y]) (hg : Gr w base F I gb W room L) (b k : Nat) (hb : w.cell? ⟨b, 0, none⟩ = some (.int .u8 k)) :
    Calls Try.prog 114 #[.pointer (some ⟨xb, 0, none⟩), .pointer (some ⟨b, 0, none⟩)] w fun e w' => e = .returned (ansV (if isNum L y = true ∧ numD L y = 2 ^ W - 1 then (k, x, 2 ^ W - 1) else (0, 0, 0))) ∧ Below w.heap.size w w' := by
  obtain ⟨R, hR⟩ : ∃ R, ((if isNum L y = true ∧ numD L y = 2 ^ W - 1 then (k, x, 2 ^ W - 1) else (0, 0, 0) : Nat × Int × Nat)) = R := ⟨_, rfl⟩
  rw [hR]
  obtain ⟨p, hp⟩ : ∃ p, w.heap.size = p := ⟨_, rfl⟩
  have hb1 := below_new w (.cells #[.int .u8 0, .int .i64 0, .int .u64 0] 123)
  have hk1 : (w.alloc (.cells #[.int .u8 0, .int .i64 0, .int .u64 0] 123)).heap[p]? = some (.cells #[.int .u8 0, .int .i64 0, .int .u64 0] 123 (0, 0)) := by rw [← hp]; exact heap_alloc_new w _
  have HB := Lib.hid hb1; have HK := Lib.hid hk1; have HA := Lib.hid h; have HP := Lib.hid hp; have HR := Lib.hid hR; have HV := Lib.hid hb; have HG := Lib.hid hg
  clear hb1 hk1 h hR hb hg
  go_enter Try.func114, Try.ntmps114
  go_upto_region 1 with fail
  clear hp
  refine wp_abs (fun w1 => Below w.heap.size w w1 ∧ w1.heap[p]? = some (.cells #[.int .u8 0, .int .i64 0, .int .u64 0] 123 (0, 0))) ⟨HB.out, HK.out⟩ ?_
  rintro w1 ⟨hb1, hx1⟩
  have ha := HA.out.below hb1
  have c2 := ha.c2
  obtain ⟨d0, d1, d2⟩ := cells3 hx1
  have f0 := fun j => frozen_of_row w1 p j _ _ hx1
  have hpl := (Array.getElem?_eq_some_iff.1 hx1).1
  have hpb : w.heap.size ≤ p := by rw [HP.out]; exact Nat.le_refl _
  have HB1 := Lib.hid hb1; have HPB := Lib.hid hpb
  have k0 := cell_later hb1 HV.out
  have a0 : w1.cell? ⟨ab, 0, none⟩ = some (.int .i64 x) := ha.a 0 (by decide)
  have hones : ∀ wx, Below w1.heap.size w1 wx → Calls Try.prog 115 #[.pointer (some ⟨xb, 0, none⟩)] wx fun e w' => e = .returned (.int .u64 ((2 ^ W - 1 : Nat) : Int)) ∧ wx = w' := fun wx hb => ones_any (ha.below hb) ((HG.out.later hb1).later hb)
  have hnum := anumber1 ha (2 ^ W - 1)
  obtain ⟨M, hM⟩ : ∃ M : Nat, 2 ^ W - 1 = M := ⟨_, rfl⟩
  rw [hM] at hones hnum HR
  have HONES := Lib.hid hones; have HNUM := Lib.hid hnum
  have n1 : b ≠ p := by have h1 := World.block_lt_of_cell? _ _ HV.out; have h2 := HP.out; simp only at h1; omega
  have n2 : xb ≠ p := by have h1 := World.block_lt_of_cell? _ _ HA.out.c2; have h2 := HP.out; simp only at h1; omega
  have n3 : ab ≠ p := by have h1 := World.block_lt_of_cell? _ _ (HA.out.a 0 (by decide)); have h2 := HP.out; simp only at h1; omega
  have n1' := n1.symm
  have n2' := n2.symm
  have n3' := n3.symm
  clear hb1 hx1 ha HB HK hpb hones hnum hM
  by_cases hc : isNum L y = true ∧ numD L y = M
  · have hr : R = (k, x, M) := by rw [← HR.out]; exact if_pos hc
    subst hr
    rw [decide_eq_true hc] at HNUM
    clear hc
    go_wp2_with (first | (go_at_call 111; refine HNUM.out.mono ?_; rintro e w2 ⟨rfl, rfl⟩) | (go_at_call 115; refine (HONES.out _ (Below.refl _ _)).mono ?_; rintro e w3 ⟨rfl, rfl⟩))
    go_region_held3 (fun w' => w'.cell? ⟨b, 0, none⟩ = some (.int .u8 k) ∧ w'.cell? ⟨xb, 2, none⟩ = some (.slice (some ⟨ab, 0, none⟩) 2 ca) ∧ w'.cell? ⟨ab, 0, none⟩ = some (.int .i64 x)) (first | exact ⟨k0, c2, a0⟩ | exact ⟨by assumption, by assumption, by assumption⟩ | go_keep)
      ((go_at_call 115; refine (HONES.out _ (Below.refl _ _).drew).mono ?_; rintro e w3 ⟨rfl, rfl⟩))
    go_wp2
    refine bodyPost_ret (v := ansV (k, x, M)) (by simp [results, Try.results114, go_sem, d0, d1, d2, ansV]) rfl ⟨rfl, ?_⟩
    exact ((((HB1.out).setCell HPB.out _).setCell HPB.out _).setCell HPB.out _).drew
  · have hr : R = (0, 0, 0) := by rw [← HR.out]; exact if_neg hc
    subst hr
    rw [decide_eq_false hc] at HNUM
    clear hc
    go_wp2_with (first | (go_at_call 111; refine HNUM.out.mono ?_; rintro e w2 ⟨rfl, rfl⟩) | (go_at_call 115; refine (HONES.out _ (Below.refl _ _)).mono ?_; rintro e w3 ⟨rfl, rfl⟩))
    refine bodyPost_ret (v := ansV (0, 0, 0)) (by simp [results, Try.results114, go_sem, d0, d1, d2, ansV]) rfl ⟨rfl, ?_⟩
    exact (((HB1.out).setCell HPB.out _).setCell HPB.out _).setCell HPB.out _
theorem beyond_any (h : Asked w xb gb ab ca nb ib 2 L o [x, y]) (hg : Gr w base F I gb W room L) :
    Calls Try.prog 85 #[.pointer (some ⟨xb, 0, none⟩)] w fun e w' => e = .returned (ansV (if isNum L y = true ∧ W ≤ numD L y then (2, 0, 0) else (0, 0, 0))) ∧ Below w.heap.size w w' := by
  obtain ⟨R, hR⟩ : ∃ R, ((if isNum L y = true ∧ W ≤ numD L y then (2, 0, 0) else (0, 0, 0) : Nat × Int × Nat)) = R := ⟨_, rfl⟩
  rw [hR]
  obtain ⟨p, hp⟩ : ∃ p, w.heap.size = p := ⟨_, rfl⟩
  have hb1 := below_new w (.cells #[.int .u8 0, .int .i64 0, .int .u64 0] 123)
  have hk1 : (w.alloc (.cells #[.int .u8 0, .int .i64 0, .int .u64 0] 123)).heap[p]? = some (.cells #[.int .u8 0, .int .i64 0, .int .u64 0] 123 (0, 0)) := by rw [← hp]; exact heap_alloc_new w _
  have HB := Lib.hid hb1; have HK := Lib.hid hk1; have HA := Lib.hid h; have HP := Lib.hid hp; have HR := Lib.hid hR; have HG := Lib.hid hg; have hW2 := hg.w2
  clear hb1 hk1 h hR hg
  go_enter Try.func85, Try.ntmps85
  go_upto_region 1 with fail
  clear hp
  refine wp_abs (fun w1 => Below w.heap.size w w1 ∧ w1.heap[p]? = some (.cells #[.int .u8 0, .int .i64 0, .int .u64 0] 123 (0, 0))) ⟨HB.out, HK.out⟩ ?_
  rintro w1 ⟨hb1, hx1⟩
  have ha := HA.out.below hb1
  have c2 := ha.c2
  obtain ⟨d0, d1, d2⟩ := cells3 hx1
  have f0 := fun j => frozen_of_row w1 p j _ _ hx1
  have hpl := (Array.getElem?_eq_some_iff.1 hx1).1
  have hpb : w.heap.size ≤ p := by rw [HP.out]; exact Nat.le_refl _
  have HB1 := Lib.hid hb1; have HPB := Lib.hid hpb
  have c0 := ha.c0
  have c3 := ha.c3
  have c4 := ha.c4
  have i1 : w1.cell? ⟨ib, 1, none⟩ = some (.bool (isNum L y)) := ha.is 1 (by decide)
  have u1 : w1.cell? ⟨nb, 1, none⟩ = some (.int .u64 (numD L y)) := ha.num 1 (by decide)
  have hwq : ∀ n, Calls Try.prog 35 #[.pointer (some ⟨gb, 0, none⟩)] (w1.drewN n) fun e w' => e = .returned (.int .i64 W) ∧ ∃ m, w' = w1.drewN m := fun n => (width_any ((HG.out.later hb1).later (below_drewN (Below.refl _ _) n))).mono fun _ _ ⟨a, b⟩ => ⟨a, n, b.symm⟩
  have HWQ := Lib.hid hwq
  obtain ⟨q, hq⟩ : ∃ q, numD L y = q := ⟨_, rfl⟩
  obtain ⟨bo, hbo⟩ : ∃ bo, isNum L y = bo := ⟨_, rfl⟩
  rw [hq] at u1 HR
  rw [hbo] at i1 HR
  clear hb1 hx1 ha HB HK hpb hwq hq hbo
  cases bo with
  | false =>
    have hr : R = (0, 0, 0) := by rw [← HR.out]; exact if_neg (fun h => by cases h.1)
    subst hr
    clear u1
    go_wp2
    go_quiet ((go_at_call 35; exact HWQ.out _))
    go_wp2
    refine bodyPost_ret (v := ansV (0, 0, 0)) (by simp [results, Try.results85, go_sem, d0, d1, d2, ansV]) rfl ⟨rfl, ?_⟩
    exact (((below_drewN HB1.out _).setCell HPB.out _).setCell HPB.out _).setCell HPB.out _
  | true =>
    by_cases hc : W ≤ q
    · have hr : R = (2, 0, 0) := by rw [← HR.out]; exact if_pos ⟨rfl, hc⟩
      subst hr
      go_wp2
      go_quiet ((go_at_call 35; exact HWQ.out _))
      go_wp2
      refine bodyPost_ret (v := ansV (2, 0, 0)) (by simp [results, Try.results85, go_sem, d0, d1, d2, ansV]) rfl ⟨rfl, ?_⟩
      exact (((below_drewN HB1.out _).setCell HPB.out _).setCell HPB.out _).setCell HPB.out _
    · have hr : R = (0, 0, 0) := by rw [← HR.out]; exact if_neg (fun h => hc h.2)
      subst hr
      go_wp2
      go_quiet ((go_at_call 35; exact HWQ.out _))
      go_wp2
      refine bodyPost_ret (v := ansV (0, 0, 0)) (by simp [results, Try.results85, go_sem, d0, d1, d2, ansV]) rfl ⟨rfl, ?_⟩
      exact (((below_drewN HB1.out _).setCell HPB.out _).setCell HPB.out _).setCell HPB.out _
theorem chosen_any {z : Int} (h : Asked w xb gb ab ca nb ib 3 L o [x, y, z])  :
    Calls Try.prog 86 #[.pointer (some ⟨xb, 0, none⟩)] w fun e w' => e = .returned (ansV (if y = z then (1, y, 0) else if isNum L x = true then (if numD L x ≠ 0 then (1, y, 0) else (1, z, 0)) else (0, 0, 0))) ∧ Below w.heap.size w w' := by
  obtain ⟨R, hR⟩ : ∃ R, ((if y = z then (1, y, 0) else if isNum L x = true then (if numD L x ≠ 0 then (1, y, 0) else (1, z, 0)) else (0, 0, 0) : Nat × Int × Nat)) = R := ⟨_, rfl⟩
  rw [hR]
  obtain ⟨p, hp⟩ : ∃ p, w.heap.size = p := ⟨_, rfl⟩
  have hb1 := below_new w (.cells #[.int .u8 0, .int .i64 0, .int .u64 0] 123)
  have hk1 : (w.alloc (.cells #[.int .u8 0, .int .i64 0, .int .u64 0] 123)).heap[p]? = some (.cells #[.int .u8 0, .int .i64 0, .int .u64 0] 123 (0, 0)) := by rw [← hp]; exact heap_alloc_new w _
  have HB := Lib.hid hb1; have HK := Lib.hid hk1; have HA := Lib.hid h; have HP := Lib.hid hp; have HR := Lib.hid hR
  clear hb1 hk1 h hR
  go_enter Try.func86, Try.ntmps86
  go_upto_region 1 with fail
  clear hp
  refine wp_abs (fun w1 => Below w.heap.size w w1 ∧ w1.heap[p]? = some (.cells #[.int .u8 0, .int .i64 0, .int .u64 0] 123 (0, 0))) ⟨HB.out, HK.out⟩ ?_
  rintro w1 ⟨hb1, hx1⟩
  have ha := HA.out.below hb1
  have c2 := ha.c2
  obtain ⟨d0, d1, d2⟩ := cells3 hx1
  have f0 := fun j => frozen_of_row w1 p j _ _ hx1
  have hpl := (Array.getElem?_eq_some_iff.1 hx1).1
  have hpb : w.heap.size ≤ p := by rw [HP.out]; exact Nat.le_refl _
  have HB1 := Lib.hid hb1; have HPB := Lib.hid hpb
  have c3 := ha.c3
  have c4 := ha.c4
  have a1 : w1.cell? ⟨ab, 1, none⟩ = some (.int .i64 y) := ha.a 1 (by decide)
  have a2 : w1.cell? ⟨ab, 2, none⟩ = some (.int .i64 z) := ha.a 2 (by decide)
  have i0 : w1.cell? ⟨ib, 0, none⟩ = some (.bool (isNum L x)) := ha.is 0 (by decide)
  have u0 : w1.cell? ⟨nb, 0, none⟩ = some (.int .u64 (numD L x)) := ha.num 0 (by decide)
  obtain ⟨q, hq⟩ : ∃ q, numD L x = q := ⟨_, rfl⟩
  obtain ⟨bo, hbo⟩ : ∃ bo, isNum L x = bo := ⟨_, rfl⟩
  rw [hq] at u0 HR
  rw [hbo] at i0 HR
  clear hb1 hx1 ha HB HK hpb hq hbo
  by_cases hc : y = z
  · have hr : R = (1, y, 0) := by rw [← HR.out]; exact if_pos hc
    subst hr
    have hq : (y == z) = true := by rw [beq_iff_eq]; exact hc
    clear hc
    go_wp2
    go_quiet (fail)
    go_wp2
    refine bodyPost_ret (v := ansV (1, y, 0)) (by simp [results, Try.results86, go_sem, d0, d1, d2, ansV]) rfl ⟨rfl, ?_⟩
    exact (((below_drewN HB1.out _).setCell HPB.out _).setCell HPB.out _).setCell HPB.out _
  · have hq : (y == z) = false := by rw [beq_eq_false_iff_ne]; exact hc
    have hr0 := HR.out
    rw [if_neg hc] at hr0
    have HR0 := Lib.hid hr0
    clear hc hr0
    cases bo with
    | false =>
      have hr : R = (0, 0, 0) := by rw [← HR0.out]; rfl
      subst hr
      go_wp2
      go_quiet (fail)
      go_wp2
      refine bodyPost_ret (v := ansV (0, 0, 0)) (by simp [results, Try.results86, go_sem, d0, d1, d2, ansV]) rfl ⟨rfl, ?_⟩
      exact (((below_drewN HB1.out _).setCell HPB.out _).setCell HPB.out _).setCell HPB.out _
    | true =>
      by_cases hz : q = 0
      · have hr : R = (1, z, 0) := by rw [← HR0.out, if_pos rfl, if_neg (fun h => h hz)]
        subst hr
        have hz2 : ((q : Int) != 0) = false := by rw [bne_eq_false_iff_eq]; omega
        clear hz
        go_wp2
        go_quiet (fail)
        go_wp2
        refine bodyPost_ret (v := ansV (1, z, 0)) (by simp [results, Try.results86, go_sem, d0, d1, d2, ansV]) rfl ⟨rfl, ?_⟩
        exact (((below_drewN HB1.out _).setCell HPB.out _).setCell HPB.out _).setCell HPB.out _
      · have hr : R = (1, y, 0) := by rw [← HR0.out, if_pos rfl, if_pos hz]
        subst hr
        have hz2 : ((q : Int) != 0) = true := by rw [bne_iff_ne]; omega
        clear hz
        go_wp2
        go_quiet (fail)
        go_wp2
        refine bodyPost_ret (v := ansV (1, y, 0)) (by simp [results, Try.results86, go_sem, d0, d1, d2, ansV]) rfl ⟨rfl, ?_⟩
        exact (((below_drewN HB1.out _).setCell HPB.out _).setCell HPB.out _).setCell HPB.out _
end
end Go.Proofs.Ytcpgiadhmmmafaa
