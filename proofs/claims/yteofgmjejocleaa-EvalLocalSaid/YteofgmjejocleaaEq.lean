/- EqualInts and EqualNode of the kit. -/
import Derived.Test.YteofgmjejocleaaSep
namespace Go.Proofs.Yteofgmjejocleaa
open Go.RowKit Go.Maps
set_option maxHeartbeats 800000

theorem take_eq_all {α : Type} {xs ys : List α} {n : Nat} (h1 : xs.length = n) (h2 : ys.length = n) (h : xs.take n = ys.take n) : xs = ys := by
  rwa [List.take_of_length_le (by omega), List.take_of_length_le (by omega)] at h
theorem take_ne {α : Type} {xs ys : List α} {k : Nat} {p q : α} (h1 : xs[k]? = some p) (h2 : ys[k]? = some q) (h : p ≠ q) : xs ≠ ys := by
  rintro rfl
  rw [h1] at h2
  exact h (Option.some.inj h2)
theorem equalInts_any {w : World} (va vb : Value) (xs ys : List Int) (ha : SliceOf w .i64 va xs) (hb : SliceOf w .i64 vb ys) (hx : xs.length ≤ 9223372036854775807) (hy : ys.length ≤ 9223372036854775807) :
    Calls Try.prog 73 #[va, vb] w fun e w' => e = .returned (.bool (decide (xs = ys))) ∧ Below w.heap.size w w' := by
  obtain ⟨B, hB⟩ : ∃ B, decide (xs = ys) = B := ⟨_, rfl⟩
  rw [hB]
  obtain ⟨a, n, cap, rfl, hna, hca⟩ := ha.parts
  obtain ⟨b, m, cap', rfl, hnb, hcb⟩ := hb.parts
  rw [hna] at hx
  rw [hnb] at hy
  have HB := Lib.hid hB; have HN := Lib.hid (And.intro hna hnb); have HA := Lib.hid hca; have HC := Lib.hid hcb
  clear ha hb hna hnb hca hcb hB
  by_cases hl : n = m
  · subst hl
    have ht : ((n : Int) != (n : Int)) = false := by simp
    go_enter Try.func73, Try.ntmps73
    go_wp2
    go_loopw [5] (fun i wr => ∃ k : Nat, k ≤ n ∧ i = .int .i64 k ∧ xs.take k = ys.take k ∧ Below w.heap.size w wr) (fun i _ => n - (intOf i).toNat)
    case atStart => exact ⟨0, by omega, rfl, rfl, Below.refl _ _⟩
    case round =>
      obtain ⟨k, hk, rfl, he, hbr⟩ := hrel
      have HE := Lib.hid he; have HBR := Lib.hid hbr
      clear he hbr
      by_cases hlt : k < n
      · obtain ⟨g, off, p, rfl, hc1, hp⟩ := HA.out k hlt
        obtain ⟨g', off', q, rfl, hc2, hq⟩ := HC.out k hlt
        have d1 := cell_later HBR.out hc1
        have d2 := cell_later HBR.out hc2
        have HP := Lib.hid (And.intro hp hq)
        have hlz : decide ((k : Int) < (n : Int)) = true := decide_eq_true (by omega)
        clear hc1 hc2 hp hq
        by_cases hpq : p = q
        · subst hpq
          have ht2 : (p != p) = false := by simp
          have hs := HE.out
          have hs2 : xs.take (k + 1) = ys.take (k + 1) := by rw [← take_snoc' HP.out.1, ← take_snoc' HP.out.2, hs]
          have HS := Lib.hid hs2
          clear hs hs2
          go_wp2
          go_quiet (fail)
          go_wp2
          go_roundw
          case rel => exact ⟨k + 1, by omega, by go_num, HS.out, below_drewN HBR.out _⟩
          case measure => simp [intOf]; omega
        · have ht2 : (p != q) = true := by simpa using hpq
          have hf : B = false := by rw [← HB.out]; exact decide_eq_false (take_ne HP.out.1 HP.out.2 hpq)
          subst hf
          clear hpq
          go_wp2
          go_quiet (fail)
          go_wp2
          go_ret
          exact ⟨rfl, below_drewN HBR.out _⟩
      · obtain rfl : k = n := by omega
        have hf : B = true := by rw [← HB.out]; exact decide_eq_true (take_eq_all HN.out.1 HN.out.2 HE.out)
        subst hf
        go_wp2
        go_ret
        exact ⟨rfl, HBR.out⟩
  · have ht : ((n : Int) != (m : Int)) = true := by rw [bne_iff_ne]; omega
    have hf : B = false := by rw [← HB.out]; exact decide_eq_false (fun e => by have := HN.out; rw [e] at this; omega)
    subst hf
    clear hl
    go_enter Try.func73, Try.ntmps73
    go_wp2
    go_ret
    exact ⟨rfl, Below.refl _ _⟩
/-- A node, as a value. -/
def NodeV (w : World) (v : Value) (n : PNode) : Prop := ∃ va, v = .agg #[.int .u8 n.1, .int .u64 n.2.1, va] ∧ SliceOf w .i64 va n.2.2 ∧ n.2.2.length ≤ 9223372036854775807
theorem equalNode_any {w : World} (va vb : Value) (n m : PNode) (ha : NodeV w va n) (hb : NodeV w vb m) :
    Calls Try.prog 66 #[va, vb] w fun e w' => e = .returned (.bool (decide (n = m))) ∧ Below w.heap.size w w' := by
  obtain ⟨B, hB⟩ : ∃ B, decide (n = m) = B := ⟨_, rfl⟩
  rw [hB]
  obtain ⟨o1, q1, xs⟩ := n
  obtain ⟨o2, q2, ys⟩ := m
  obtain ⟨va, rfl, ha, hx⟩ := ha
  obtain ⟨vb, rfl, hb, hy⟩ := hb
  simp only at ha hb hx hy
  have HB := Lib.hid hB; have HA := Lib.hid ha; have HC := Lib.hid hb
  obtain ⟨a, n, cap, rfl, -, -⟩ := ha.parts
  obtain ⟨b, m, cap', rfl, -, -⟩ := hb.parts
  clear ha hb hB
  by_cases h1 : o1 = o2
  · subst h1
    by_cases h2 : q1 = q2
    · subst h2
      have hB := Lib.hid (show decide (xs = ys) = B by rw [← HB.out]; simp)
      go_enter Try.func66, Try.ntmps66
      go_wp2_with fail
      go_at_call 73
      refine (equalInts_any _ _ xs ys ((HA.out.below (below_new _ _)).below (below_new _ _)) ((HC.out.below (below_new _ _)).below (below_new _ _)) hx hy).mono ?_
      rw [hB.out]
      rintro e w2 ⟨rfl, hb2⟩
      go_wp2
      go_ret
      exact ⟨rfl, ((below_new w _).alloc (by simp) _).trans (hb2.mono (by simp; omega))⟩
    · have ht : ((q1 : Int) == (q2 : Int)) = false := by rw [beq_eq_false_iff_ne]; omega
      have hf : B = false := by rw [← HB.out]; simp [h2]
      subst hf
      clear h2
      go_enter Try.func66, Try.ntmps66
      go_wp2
      go_ret
      exact ⟨rfl, (below_new w _).alloc (by simp) _⟩
  · have ht : ((o1 : Int) == (o2 : Int)) = false := by rw [beq_eq_false_iff_ne]; omega
    have hf : B = false := by rw [← HB.out]; simp [h1]
    subst hf
    clear h1
    go_enter Try.func66, Try.ntmps66
    go_wp2
    go_ret
    exact ⟨rfl, (below_new w _).alloc (by simp) _⟩
end Go.Proofs.Yteofgmjejocleaa
