/- The chapter's example of values; awake of law 11. -/
import Derived.Test.YteofgmjejocleaaEvalE
import Derived.Test.YteofgmjejocleaaGraphG
import Derived.Test.YteofgmjejocleaaEq
namespace Go.Proofs.Yteofgmjejocleaa
open Go.RowKit Go.Maps
set_option maxHeartbeats 800000

theorem equalNums_any {w : World} (va vb : Value) (xs ys : List Int) (ha : SliceOf w .u64 va xs) (hb : SliceOf w .u64 vb ys) (hx : xs.length ≤ 9223372036854775807) (hy : ys.length ≤ 9223372036854775807) :
    Calls Try.prog 13 #[va, vb] w fun e w' => e = .returned (.bool (decide (xs = ys))) ∧ Below w.heap.size w w' := by
  obtain ⟨B, hB⟩ : ∃ B, decide (xs = ys) = B := ⟨_, rfl⟩
  rw [hB]
  obtain ⟨a, n, cap, rfl, hna, hca⟩ := ha.parts
  obtain ⟨b, m, cap', rfl, hnb, hcb⟩ := hb.parts
  rw [hna] at hx
  rw [hnb] at hy
  have HB := Lib.hid hB; have HN := Lib.hid (And.intro hna hnb); have HA := Lib.hid hca; have HC := Lib.hid hcb
  clear ha hb hna hnb hca hcb hB
  by_cases hl : n = m
  · subst hl
    have ht : ((n : Int) != (n : Int)) = false := by simp
    go_enter Try.func13, Try.ntmps13
    go_wp2
    go_loopw [5] (fun i wr => ∃ k : Nat, k ≤ n ∧ i = .int .i64 k ∧ xs.take k = ys.take k ∧ Below w.heap.size w wr) (fun i _ => n - (intOf i).toNat)
    case atStart => exact ⟨0, by omega, rfl, rfl, Below.refl _ _⟩
    case round =>
      obtain ⟨k, hk, rfl, he, hbr⟩ := hrel
      have HE := Lib.hid he; have HBR := Lib.hid hbr
      clear he hbr
      by_cases hlt : k < n
      · obtain ⟨g, off, p, rfl, hc1, hp⟩ := HA.out k hlt
        obtain ⟨g', off', q, rfl, hc2, hq⟩ := HC.out k hlt
        have d1 := cell_later HBR.out hc1
        have d2 := cell_later HBR.out hc2
        have HP := Lib.hid (And.intro hp hq)
        have hlz : decide ((k : Int) < (n : Int)) = true := decide_eq_true (by omega)
        clear hc1 hc2 hp hq
        by_cases hpq : p = q
        · subst hpq
          have ht2 : (p != p) = false := by simp
          have hs := HE.out
          have hs2 : xs.take (k + 1) = ys.take (k + 1) := by rw [← take_snoc' HP.out.1, ← take_snoc' HP.out.2, hs]
          have HS := Lib.hid hs2
          clear hs hs2
          go_wp2
          go_quiet (fail)
          go_wp2
          go_roundw
          case rel => exact ⟨k + 1, by omega, by go_num, HS.out, below_drewN HBR.out _⟩
          case measure => simp [intOf]; omega
        · have ht2 : (p != q) = true := by simpa using hpq
          have hf : B = false := by rw [← HB.out]; exact decide_eq_false (take_ne HP.out.1 HP.out.2 hpq)
          subst hf
          clear hpq
          go_wp2
          go_quiet (fail)
          go_wp2
          go_ret
          exact ⟨rfl, below_drewN HBR.out _⟩
      · obtain rfl : k = n := by omega
        have hf : B = true := by rw [← HB.out]; exact decide_eq_true (take_eq_all HN.out.1 HN.out.2 HE.out)
        subst hf
        go_wp2
        go_ret
        exact ⟨rfl, HBR.out⟩
  · have ht : ((n : Int) != (m : Int)) = true := by rw [bne_iff_ne]; omega
    have hf : B = false := by rw [← HB.out]; exact decide_eq_false (fun e => by have := HN.out; rw [e] at this; omega)
    subst hf
    clear hl
    go_enter Try.func13, Try.ntmps13
    go_wp2
    go_ret
    exact ⟨rfl, Below.refl _ _⟩
def exL : List PNode := [(1, 0, []), (1, 2, []), (4, 0, [0, 1]), (6, 0, [2, 2]), (17, 0, [0, 1]), (21, 0, [4, 2, 3])]
section
variable {w0 wr w' : World} {ts : List Thing} {F I : List Nat} {gb W room : Nat} {L : List PNode}
/-- What makes memory only, at a block that is laid. -/
theorem Lab.grL (h : Lab w0 wr (Thing.graph F I gb W room L :: ts)) (o : Obj) : Lab w0 (wr.alloc o) (Thing.graph F I gb W room L :: ts) := h.later (below_new _ _)
theorem Lab.example (h : Lab w0 wr ts) : Calls Try.prog 10 #[] wr fun e w' => ∃ gb F I, e = .returned (.tuple #[.pointer (some ⟨gb, 0, none⟩), .int .i64 2, .int .i64 3, .int .i64 5]) ∧ Lab w0 w' (Thing.graph F I gb 4 1048576 exL :: ts) := by
  have e1 : varR 1048576 [] 0 = ([(1, 0, [])], 0, 0) := by decide
  have e2 : varR 1048576 [(1, 0, [])] 2 = ([(1, 0, []), (1, 2, [])], 1, 0) := by decide
  have e3 : appR 1048576 [(1, 0, []), (1, 2, [])] 4 [0, 1] = ([(1, 0, []), (1, 2, []), (4, 0, [0, 1])], 2, 0) := by decide
  have e4 : appR 1048576 [(1, 0, []), (1, 2, []), (4, 0, [0, 1])] 6 [2, 2] = ([(1, 0, []), (1, 2, []), (4, 0, [0, 1]), (6, 0, [2, 2])], 3, 0) := by decide
  have e5 : appR 1048576 [(1, 0, []), (1, 2, []), (4, 0, [0, 1]), (6, 0, [2, 2])] 17 [0, 1] = ([(1, 0, []), (1, 2, []), (4, 0, [0, 1]), (6, 0, [2, 2]), (17, 0, [0, 1])], 4, 0) := by decide
  have e6 : appR 1048576 [(1, 0, []), (1, 2, []), (4, 0, [0, 1]), (6, 0, [2, 2]), (17, 0, [0, 1])] 21 [4, 2, 3] = (exL, 5, 0) := by decide
  have E1 := Lib.hid e1; have E2 := Lib.hid e2; have E3 := Lib.hid e3; have E4 := Lib.hid e4; have E5 := Lib.hid e5; have E6 := Lib.hid e6; have H0 := Lib.hid h
  clear e1 e2 e3 e4 e5 e6 h
  go_enter Try.func10, Try.ntmps10
  go_wp2_with fail
  go_at_call 16
  refine (H0.out.new_graph 4 0 ⟨by decide, by decide, by decide, by decide⟩).mono ?_
  rintro e w1 ⟨gb, F, rfl, h1⟩
  replace h1 : Lab w0 w1 (Thing.graph F [] gb 4 1048576 [] :: ts) := h1
  have H1 := Lib.hid h1; clear h1
  go_wp2_with fail
  go_at_call 17
  refine (var_any H1.out.gr 0).mono ?_
  intro e w2 hp
  obtain ⟨F2, I2, rfl, h2⟩ := H1.out.gpost hp
  rw [E1.out] at h2 ⊢
  have H2 := Lib.hid h2; clear h2 hp
  go_wp2_with fail
  go_at_call 17
  refine (var_any H2.out.gr 2).mono ?_
  intro e w3 hp
  obtain ⟨F3, I3, rfl, h3⟩ := H2.out.gpost hp
  rw [E2.out] at h3 ⊢
  have H3 := Lib.hid h3; clear h3 hp
  go_wp2_with fail
  go_at_call 18
  refine (app_any (H3.out.grL _).gr 4 (by decide) [0, 1] _ (sliceOf_new w3 .i64 3 [0, 1] 2)).mono ?_
  intro e w4 hp
  obtain ⟨F4, I4, rfl, h4⟩ := (H3.out.grL _).gpost hp
  rw [E3.out] at h4 ⊢
  have H4 := Lib.hid h4; clear h4 hp
  go_wp2_with fail
  go_at_call 18
  refine (app_any (H4.out.grL _).gr 6 (by decide) [2, 2] _ (sliceOf_new w4 .i64 3 [2, 2] 2)).mono ?_
  intro e w5 hp
  obtain ⟨F5, I5, rfl, h5⟩ := (H4.out.grL _).gpost hp
  rw [E4.out] at h5 ⊢
  have H5 := Lib.hid h5; clear h5 hp
  go_wp2_with fail
  go_at_call 18
  refine (app_any (H5.out.grL _).gr 17 (by decide) [0, 1] _ (sliceOf_new w5 .i64 3 [0, 1] 2)).mono ?_
  intro e w6 hp
  obtain ⟨F6, I6, rfl, h6⟩ := (H5.out.grL _).gpost hp
  rw [E5.out] at h6 ⊢
  have H6 := Lib.hid h6; clear h6 hp
  go_wp2_with fail
  go_at_call 18
  refine (app_any (H6.out.grL _).gr 21 (by decide) [4, 2, 3] _ (sliceOf_new w6 .i64 3 [4, 2, 3] 3)).mono ?_
  intro e w7 hp
  obtain ⟨F7, I7, rfl, h7⟩ := (H6.out.grL _).gpost hp
  rw [E6.out] at h7 ⊢
  have H7 := Lib.hid h7; clear h7 hp
  go_wp2
  refine bodyPost_ret (v := .tuple #[.pointer (some ⟨gb, 0, none⟩), .int .i64 2, .int .i64 3, .int .i64 5]) (by simp [results, Try.results10, go_sem]) rfl ⟨gb, F7, I7, rfl, H7.out⟩
/-- A call of Eval with values that are laid ahead of it. -/
theorem Lab.eval (h : Lab w0 wr (Thing.graph F I gb W room L :: ts)) (t : Int) (vals : List Int) (vv : Value) (hvv : SliceOf wr .u64 vv vals) (hvl : vals.length ≤ 9223372036854775807) (hvu : U64s vals) {R : Int × Nat} (hR : evalR W vals L t = R) :
    Calls Try.prog 11 #[.pointer (some ⟨gb, 0, none⟩), .int .i64 t, vv] wr fun e w' => e = .returned (.tuple #[.int .u64 R.1, .int .i64 R.2]) ∧ Lab w0 w' (Thing.graph F I gb W room L :: ts) := by
  subst hR
  exact (eval_any h.gr t vals vv hvv hvl hvu).mono fun e w' ⟨he, hb⟩ => ⟨he, h.later hb⟩
end
theorem awake11_any (w : World) : Calls Try.prog 14 #[] w fun e w' => e = .returned (.bool true) ∧ Below w.heap.size w w' := by
  have e1 : evalR 4 [9, 0, 9] exL 2 = (2, 0) := by decide
  have e2 : evalR 4 [9, 0, 9] exL 3 = (4, 0) := by decide
  have e3 : evalR 4 [1, 0, 3] exL 5 = (4, 0) := by decide
  have E1 := Lib.hid e1; have E2 := Lib.hid e2; have E3 := Lib.hid e3; have H0 := Lib.hid (Lab.nil (Below.refl w.heap.size w))
  clear e1 e2 e3
  go_enter Try.func14, Try.ntmps14
  go_wp2_with fail
  go_at_call 10
  refine H0.out.example.mono ?_
  rintro e w1 ⟨gb, F, I, rfl, h1⟩
  have H1 := Lib.hid h1; clear h1
  go_wp2_with fail
  go_at_call 11
  refine ((H1.out.grL _).eval 2 [9, 0, 9] _ (sliceOf_new w1 .u64 25 [9, 0, 9] 3) (by decide) (by simp [U64s]) E1.out).mono ?_
  rintro e w2 ⟨rfl, h2⟩
  have H2 := Lib.hid h2; clear h2
  go_wp2_with fail
  go_at_call 11
  refine ((H2.out.grL _).eval 3 [9, 0, 9] _ (sliceOf_new w2 .u64 25 [9, 0, 9] 3) (by decide) (by simp [U64s]) E2.out).mono ?_
  rintro e w3 ⟨rfl, h3⟩
  have H3 := Lib.hid h3; clear h3
  go_wp2_with fail
  go_at_call 11
  refine ((H3.out.grL _).eval 5 [1, 0, 3] _ (sliceOf_new w3 .u64 25 [1, 0, 3] 3) (by decide) (by simp [U64s]) E3.out).mono ?_
  rintro e w4 ⟨rfl, h4⟩
  have H4 := Lib.hid h4; clear h4
  go_wp2
  go_ret
  exact ⟨rfl, H4.out.below⟩
theorem Lab.awake11 {w0 wr : World} {ts : List Thing} (h : Lab w0 wr ts) : Calls Try.prog 14 #[] wr fun e w' => e = .returned (.bool true) ∧ Below w0.heap.size w0 w' :=
  (awake11_any wr).mono fun _ _ ⟨he, hb⟩ => ⟨he, h.below.trans (hb.mono h.size)⟩
end Go.Proofs.Yteofgmjejocleaa
