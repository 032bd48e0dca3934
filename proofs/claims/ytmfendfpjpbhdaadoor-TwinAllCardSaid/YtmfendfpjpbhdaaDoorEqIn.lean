/- Whether two lists of lists of numbers are equal. -/
import Derived.Test.YtmfendfpjpbhdaaDoorSplitR
namespace Go.Proofs.YtmfendfpjpbhdaaDoor
open Go.RowKit Go.Maps
set_option maxHeartbeats 3200000

theorem take_eq_allL {α : Type} {xs ys : List α} {n : Nat} (h1 : xs.length = n) (h2 : ys.length = n) (h : xs.take n = ys.take n) : xs = ys := by
  rwa [List.take_of_length_le (by omega), List.take_of_length_le (by omega)] at h
theorem take_neL {α : Type} {xs ys : List α} {k : Nat} {p q : α} (h1 : xs[k]? = some p) (h2 : ys[k]? = some q) (h : p ≠ q) : xs ≠ ys := by
  rintro rfl
  rw [h1] at h2
  exact h (Option.some.inj h2)
theorem numsEq_any {w : World} (va vb : Value) (xs ys : List Int) (ha : SliceOf w .u64 va xs) (hb : SliceOf w .u64 vb ys) (hx : xs.length ≤ 9223372036854775807) (hy : ys.length ≤ 9223372036854775807) :
    Calls Tryd.prog 29 #[va, vb] w fun e w' => e = .returned (.bool (decide (xs = ys))) ∧ Below w.heap.size w w' := by
  obtain ⟨B, hB⟩ : ∃ B, decide (xs = ys) = B := ⟨_, rfl⟩
  rw [hB]
  obtain ⟨a, n, cap, rfl, hna, hca⟩ := ha.parts
  obtain ⟨b, m, cap', rfl, hnb, hcb⟩ := hb.parts
  rw [hna] at hx
  rw [hnb] at hy
  have HB := Lib.hid hB; have HN := Lib.hid (And.intro hna hnb); have HA := Lib.hid hca; have HC := Lib.hid hcb
  clear ha hb hna hnb hca hcb hB
  by_cases hl : n = m
  · subst hl
    have ht : ((n : Int) != (n : Int)) = false := by simp
    go_enter Tryd.func29, Tryd.ntmps29
    go_wp2
    go_loopw [5] (fun i wr => ∃ k : Nat, k ≤ n ∧ i = .int .i64 k ∧ xs.take k = ys.take k ∧ Below w.heap.size w wr) (fun i _ => n - (intOf i).toNat)
    case atStart => exact ⟨0, by omega, rfl, rfl, Below.refl _ _⟩
    case round =>
      obtain ⟨k, hk, rfl, he, hbr⟩ := hrel
      have HE := Lib.hid he; have HBR := Lib.hid hbr
      clear he hbr
      by_cases hlt : k < n
      · obtain ⟨g, off, p, rfl, hc1, hp⟩ := HA.out k hlt
        obtain ⟨g', off', q, rfl, hc2, hq⟩ := HC.out k hlt
        have d1 := cell_later HBR.out hc1
        have d2 := cell_later HBR.out hc2
        have HP := Lib.hid (And.intro hp hq)
        have hlz : decide ((k : Int) < (n : Int)) = true := decide_eq_true (by omega)
        clear hc1 hc2 hp hq
        by_cases hpq : p = q
        · subst hpq
          have ht2 : (p != p) = false := by simp
          have hs := HE.out
          have hs2 : xs.take (k + 1) = ys.take (k + 1) := by rw [← take_snoc' HP.out.1, ← take_snoc' HP.out.2, hs]
          have HS := Lib.hid hs2
          clear hs hs2
          go_wp2
          go_quiet (fail)
          go_wp2
          go_roundw
          case rel => exact ⟨k + 1, by omega, by go_num, HS.out, below_drewN HBR.out _⟩
          case measure => simp [intOf]; omega
        · have ht2 : (p != q) = true := by simpa using hpq
          have hf : B = false := by rw [← HB.out]; exact decide_eq_false (take_neL HP.out.1 HP.out.2 hpq)
          subst hf
          clear hpq
          go_wp2
          go_quiet (fail)
          go_wp2
          go_ret
          exact ⟨rfl, below_drewN HBR.out _⟩
      · obtain rfl : k = n := by omega
        have hf : B = true := by rw [← HB.out]; exact decide_eq_true (take_eq_allL HN.out.1 HN.out.2 HE.out)
        subst hf
        go_wp2
        go_ret
        exact ⟨rfl, HBR.out⟩
  · have ht : ((n : Int) != (m : Int)) = true := by rw [bne_iff_ne]; omega
    have hf : B = false := by rw [← HB.out]; exact decide_eq_false (fun e => by have := HN.out; rw [e] at this; omega)
    subst hf
    clear hl
    go_enter Tryd.func29, Tryd.ntmps29
    go_wp2
    go_ret
    exact ⟨rfl, Below.refl _ _⟩
set_option maxRecDepth 100000 in
theorem inputsEq_any {w : World} (va vb : Value) (xss yss : List (List Int)) (ha : NumsOf w .u64 va xss) (hb : NumsOf w .u64 vb yss) (hx : xss.length ≤ 9223372036854775807) (hy : yss.length ≤ 9223372036854775807)
    (hxs : ∀ xs ∈ xss, xs.length ≤ 9223372036854775807) (hys : ∀ ys ∈ yss, ys.length ≤ 9223372036854775807) :
    Calls Tryd.prog 14 #[va, vb] w fun e w' => e = .returned (.bool (decide (xss = yss))) ∧ Below w.heap.size w w' := by
  obtain ⟨B, hB⟩ : ∃ B, decide (xss = yss) = B := ⟨_, rfl⟩
  rw [hB]
  obtain ⟨a, n, cap, rfl, hna, hca⟩ := ha
  obtain ⟨b, m, cap', rfl, hnb, hcb⟩ := hb
  rw [hna] at hx
  rw [hnb] at hy
  have HB := Lib.hid hB; have HN := Lib.hid (And.intro hna hnb); have HA := Lib.hid hca; have HC := Lib.hid hcb; have HS := Lib.hid (And.intro hxs hys)
  clear hna hnb hca hcb hB hxs hys
  by_cases hl : n = m
  · subst hl
    have ht : ((n : Int) != (n : Int)) = false := by simp
    go_enter Tryd.func14, Tryd.ntmps14
    go_wp2
    go_loopw [5] (fun i wr => ∃ k : Nat, k ≤ n ∧ i = .int .i64 k ∧ xss.take k = yss.take k ∧ Below w.heap.size w wr) (fun i _ => n - (intOf i).toNat)
    case atStart => exact ⟨0, by omega, rfl, rfl, Below.refl _ _⟩
    case round =>
      obtain ⟨k, hk, rfl, he, hbr⟩ := hrel
      have HE := Lib.hid he; have HBR := Lib.hid hbr
      clear he hbr
      by_cases hlt : k < n
      · obtain ⟨g, off, xs, u, rfl, hp, hc1, hsx⟩ := HA.out k hlt
        obtain ⟨g', off', ys, v, rfl, hq, hc2, hsy⟩ := HC.out k hlt
        obtain ⟨ua, un, uc, rfl, -, -⟩ := hsx.parts
        obtain ⟨vva, vn, vc, rfl, -, -⟩ := hsy.parts
        have d1 := cell_later HBR.out hc1
        have d2 := cell_later HBR.out hc2
        have heq := numsEq_any _ _ xs ys ((hsx.later HBR.out).later ((Below.refl _ _).drew)) ((hsy.later HBR.out).later ((Below.refl _ _).drew)) (HS.out.1 xs (List.mem_of_getElem? hp)) (HS.out.2 ys (List.mem_of_getElem? hq))
        have HP := Lib.hid (And.intro hp hq)
        have hlz : decide ((k : Int) < (n : Int)) = true := decide_eq_true (by omega)
        have hlz1 : (k : Int) < (n : Int) := by omega
        have hlz0 : (0 : Int) ≤ (k : Int) := by omega
        clear hc1 hc2 hp hq hsx hsy
        by_cases hpq : xs = ys
        · rw [decide_eq_true hpq] at heq
          have HQ := Lib.hid heq
          subst hpq
          have hs := HE.out
          have hs2 : xss.take (k + 1) = yss.take (k + 1) := by rw [List.take_add_one, List.take_add_one, HP.out.1, HP.out.2, hs]
          have HS2 := Lib.hid hs2
          clear hs hs2 heq
          go_upto_region 6 with fail
          go_region_held3 (fun w' => w'.cell? ⟨g, off + k, none⟩ = some (.slice ua un uc) ∧ w'.cell? ⟨g', off' + k, none⟩ = some (.slice vva vn vc)) (first | exact ⟨d1, d2⟩ | exact ⟨cell_later (by assumption) d1, cell_later (by assumption) d2⟩ | go_keep) ((go_at_call 29; refine HQ.out.mono ?_; rintro e w5 ⟨rfl, hb5⟩; replace hb5 : Below wr.heap.size wr w5 := ((Below.refl wr.heap.size wr).drew).trans hb5))
          have hb6 := HBR.out.trans (Below.mono (by assumption) HBR.out.size)
          have HB6 := Lib.hid hb6
          clear hb6
          go_wp2
          go_roundw
          case rel => exact ⟨k + 1, by omega, by go_num, HS2.out, HB6.out⟩
          case measure => simp [intOf]; omega
        · rw [decide_eq_false hpq] at heq
          have HQ := Lib.hid heq
          have hf : B = false := by rw [← HB.out]; exact decide_eq_false (take_neL HP.out.1 HP.out.2 hpq)
          subst hf
          clear hpq heq
          go_upto_region 6 with fail
          go_region_held3 (fun w' => w'.cell? ⟨g, off + k, none⟩ = some (.slice ua un uc) ∧ w'.cell? ⟨g', off' + k, none⟩ = some (.slice vva vn vc)) (first | exact ⟨d1, d2⟩ | exact ⟨cell_later (by assumption) d1, cell_later (by assumption) d2⟩ | go_keep) ((go_at_call 29; refine HQ.out.mono ?_; rintro e w5 ⟨rfl, hb5⟩; replace hb5 : Below wr.heap.size wr w5 := ((Below.refl wr.heap.size wr).drew).trans hb5))
          have hb6 := HBR.out.trans (Below.mono (by assumption) HBR.out.size)
          have HB6 := Lib.hid hb6
          clear hb6
          go_wp2
          go_ret
          exact ⟨rfl, HB6.out⟩
      · obtain rfl : k = n := by omega
        have hf : B = true := by rw [← HB.out]; exact decide_eq_true (by have := HE.out; rwa [List.take_of_length_le (by rw [HN.out.1]; exact Nat.le_refl _), List.take_of_length_le (by rw [HN.out.2]; exact Nat.le_refl _)] at this)
        subst hf
        go_wp2
        go_ret
        exact ⟨rfl, HBR.out⟩
  · have ht : ((n : Int) != (m : Int)) = true := by rw [bne_iff_ne]; omega
    have hf : B = false := by rw [← HB.out]; exact decide_eq_false (fun e => by have := HN.out; rw [e] at this; omega)
    subst hf
    clear hl
    go_enter Tryd.func14, Tryd.ntmps14
    go_wp2
    go_ret
    exact ⟨rfl, Below.refl _ _⟩
end Go.Proofs.YtmfendfpjpbhdaaDoor
