/- Package simp: numbers, and the rules one by one. -/
import Derived.Test.YtcpgiadhmmmafaaEvalT
import Derived.Test.YtcpgiadhmmmafaaPlainS
import Derived.Test.YtcpgiadhmmmafaaBothA
import Derived.Deep.DrawnRows
namespace Go.Proofs.Ytcpgiadhmmmafaa
open Go.RowKit Go.Maps
set_option maxHeartbeats 800000

theorem numOf_nodeAt (L : List PNode) (t : Int) : numOf L t = if (nodeAt L t).2 = 0 ∧ (nodeAt L t).1.1 = 0 then some (nodeAt L t).1.2.1 else none := by
  by_cases hc : 0 ≤ t ∧ t < (L.length : Int)
  · obtain ⟨z, rfl⟩ := Int.eq_ofNat_of_zero_le hc.1
    obtain ⟨n, hn⟩ : ∃ n, L[z]? = some n := ⟨_, List.getElem?_eq_getElem (by omega)⟩
    rw [nodeAt_in hn]
    unfold numOf
    rw [if_pos hc.1, Int.toNat_natCast, hn]
    by_cases h : n.1 = 0 <;> simp [h]
  · have e : nodeAt L t = ((0, 0, []), 3) := if_neg hc
    rw [e]
    unfold numOf
    by_cases h0 : 0 ≤ t
    · rw [if_pos h0, List.getElem?_eq_none (by omega)]; simp
    · rw [if_neg h0]; simp
theorem numD_at (L : List PNode) (t : Int) : numD L t = if (nodeAt L t).2 = 0 ∧ (nodeAt L t).1.1 = 0 then (nodeAt L t).1.2.1 else 0 := by
  unfold numD; rw [numOf_nodeAt]; split <;> rfl
theorem isNum_at (L : List PNode) (t : Int) : isNum L t = decide ((nodeAt L t).2 = 0 ∧ (nodeAt L t).1.1 = 0) := by
  unfold isNum; rw [numOf_nodeAt]; split <;> simp [*]
theorem number_any {w : World} {base : Nat} {F I : List Nat} {gb W room : Nat} {L : List PNode} (h : Gr w base F I gb W room L) (t : Int) :
    Calls Try.prog 31 #[.pointer (some ⟨gb, 0, none⟩), .int .i64 t] w fun e w' => e = .returned (.tuple #[.int .u64 (numD L t), .bool (isNum L t)]) ∧ Below w.heap.size w w' := by
  have hn := node_t h t
  rw [numD_at, isNum_at]
  obtain ⟨R, hR⟩ : ∃ R, nodeAt L t = R := ⟨_, rfl⟩
  rw [hR] at hn ⊢
  obtain ⟨⟨op, num, xs⟩, er⟩ := R
  simp only at hn ⊢
  have HN := Lib.hid hn
  clear hn h hR
  by_cases he : er = 0
  · subst he
    by_cases h0 : op = 0
    · subst h0
      have e1 : (((0 : Nat) : Int) != 0) = false := by simp
      go_enter Try.func31, Try.ntmps31
      go_wp2_with fail
      go_at_call 52
      refine HN.out.mono ?_
      rintro e w1 ⟨a, m, c, rfl, -, hb⟩
      have HB := Lib.hid (hb.alloc hb.size (.cells #[.int .u8 ((0 : Nat) : Int), .int .u64 num, .slice a m c] 106))
      clear hb
      go_wp2
      go_ret2
      exact ⟨by simp, HB.out⟩
    · have e1 : (((0 : Nat) : Int) != 0) = false := by simp
      have e2 : ((op : Int) != 0) = true := by rw [bne_iff_ne]; omega
      have HR : ¬ ((0 : Nat) = 0 ∧ op = 0) := fun h => h0 h.2
      rw [if_neg HR, decide_eq_false HR]
      clear HR h0
      go_enter Try.func31, Try.ntmps31
      go_wp2_with fail
      go_at_call 52
      refine HN.out.mono ?_
      rintro e w1 ⟨a, m, c, rfl, -, hb⟩
      have HB := Lib.hid (hb.alloc hb.size (.cells #[.int .u8 op, .int .u64 num, .slice a m c] 106))
      clear hb
      go_wp2
      go_ret2
      exact ⟨rfl, HB.out⟩
  · have e1 : ((er : Int) != 0) = true := by rw [bne_iff_ne]; omega
    have HR : ¬ (er = 0 ∧ op = 0) := fun h => he h.1
    rw [if_neg HR, decide_eq_false HR]
    clear HR he
    go_enter Try.func31, Try.ntmps31
    go_wp2_with fail
    go_at_call 52
    refine HN.out.mono ?_
    rintro e w1 ⟨a, m, c, rfl, -, hb⟩
    have HB := Lib.hid (hb.alloc hb.size (.cells #[.int .u8 op, .int .u64 num, .slice a m c] 106))
    clear hb
    go_wp2
    go_ret2
    exact ⟨rfl, HB.out⟩
theorem number_nil (w : World) (t : Int) :
    Calls Try.prog 31 #[.pointer none, .int .i64 t] w fun e w' => e = .returned (.tuple #[.int .u64 0, .bool false]) ∧ Below w.heap.size w w' := by
  have HN := Lib.hid (node_nil t w)
  go_enter Try.func31, Try.ntmps31
  go_wp2_with fail
  go_at_call 52
  refine HN.out.mono ?_
  rintro e w1 ⟨rfl, hb⟩
  have HB := Lib.hid (hb.alloc hb.size (.cells #[.int .u8 0, .int .u64 0, .slice none 0 0] 106))
  clear hb
  go_wp2
  go_ret2
  exact ⟨rfl, HB.out⟩
/-- An operator with its arguments, in memory. -/
structure Asked (w : World) (xb gb ab ca nb ib n : Nat) (L : List PNode) (o : Nat) (xs : List Int) : Prop where
  len : xs.length = n
  nlt : n ≤ 3
  ncap : n ≤ ca
  c0 : w.cell? ⟨xb, 0, none⟩ = some (.pointer (some ⟨gb, 0, none⟩))
  c1 : w.cell? ⟨xb, 1, none⟩ = some (.int .u8 o)
  c2 : w.cell? ⟨xb, 2, none⟩ = some (.slice (some ⟨ab, 0, none⟩) n ca)
  c3 : w.cell? ⟨xb, 3, none⟩ = some (.slice (some ⟨nb, 0, none⟩) n n)
  c4 : w.cell? ⟨xb, 4, none⟩ = some (.slice (some ⟨ib, 0, none⟩) n n)
  a : ∀ i, i < n → w.cell? ⟨ab, i, none⟩ = some (.int .i64 (xs.getD i 0))
  num : ∀ i, i < n → w.cell? ⟨nb, i, none⟩ = some (.int .u64 (numD L (xs.getD i 0)))
  is : ∀ i, i < n → w.cell? ⟨ib, i, none⟩ = some (.bool (isNum L (xs.getD i 0)))
section
variable {w w' : World} {xb gb ab ca nb ib n W room : Nat} {L : List PNode} {o : Nat} {xs : List Int} {base : Nat} {F I : List Nat}
theorem Asked.below (h : Asked w xb gb ab ca nb ib n L o xs) (hb : Below w.heap.size w w') : Asked w' xb gb ab ca nb ib n L o xs :=
  ⟨h.len, h.nlt, h.ncap, cell_later hb h.c0, cell_later hb h.c1, cell_later hb h.c2, cell_later hb h.c3, cell_later hb h.c4, fun i hi => cell_later hb (h.a i hi), fun i hi => cell_later hb (h.num i hi), fun i hi => cell_later hb (h.is i hi)⟩
theorem anumber_any (h : Asked w xb gb ab ca nb ib n L o xs) (i : Nat) (hi : i < n) (v : Nat) :
    Calls Try.prog 111 #[.pointer (some ⟨xb, 0, none⟩), .int .i64 i, .int .u64 v] w fun e w' => e = .returned (.bool (decide (isNum L (xs.getD i 0) = true ∧ numD L (xs.getD i 0) = v))) ∧ w = w' := by
  have c3 := h.c3
  have c4 := h.c4
  have d1 := h.num i hi
  have d2 := h.is i hi
  have hn3 := h.nlt
  obtain ⟨q, hq⟩ : ∃ q, numD L (xs.getD i 0) = q := ⟨_, rfl⟩
  rw [hq] at d1 ⊢
  clear h hq
  cases hc : isNum L (xs.getD i 0) with
  | true =>
    rw [hc] at d2
    by_cases hv : q = v
    · have e1 : ((q : Int) == (v : Int)) = true := by rw [beq_iff_eq]; omega
      rw [decide_eq_true ⟨rfl, hv⟩]
      clear hv hc
      go_enter Try.func111, Try.ntmps111
      go_wp2
      go_ret
      exact ⟨rfl, rfl⟩
    · have e1 : ((q : Int) == (v : Int)) = false := by rw [beq_eq_false_iff_ne]; omega
      rw [decide_eq_false (fun h => hv h.2)]
      clear hv hc
      go_enter Try.func111, Try.ntmps111
      go_wp2
      go_ret
      exact ⟨rfl, rfl⟩
  | false =>
    rw [hc] at d2
    rw [decide_eq_false (fun h => by cases h.1)]
    clear hc
    go_enter Try.func111, Try.ntmps111
    go_wp2
    go_ret
    exact ⟨rfl, rfl⟩
theorem ones_any (h : Asked w xb gb ab ca nb ib n L o xs) (hg : Gr w base F I gb W room L) :
    Calls Try.prog 115 #[.pointer (some ⟨xb, 0, none⟩)] w fun e w' => e = .returned (.int .u64 ((2 ^ W - 1 : Nat) : Int)) ∧ w = w' := by
  have c0 := h.c0
  have h1 := hg.w1
  have h2 := hg.w2
  have htr := trim_any W 18446744073709551615 (by omega) (by omega) w
  have e3 : trimI W 18446744073709551615 = ((2 ^ W - 1 : Nat) : Int) := by
    unfold trimI
    rw [if_pos (chk_in (by omega) (by omega)), Int.toNat_natCast]
    congr 1
    exact ones_mod' h2
  rw [e3, chk_in (by omega) (by omega)] at htr
  have HT := Lib.hid htr; have HG := Lib.hid hg
  clear h hg htr e3
  generalize 2 ^ W - 1 = M at *
  go_enter Try.func115, Try.ntmps115
  go_wp2_with (first | (go_at_call 35; refine (width_any HG.out).mono ?_; rintro e w1 ⟨rfl, rfl⟩) | (go_at_call 63; refine HT.out.mono ?_; rintro e w2 ⟨rfl, rfl⟩))
  go_ret
  exact ⟨rfl, rfl⟩
end
end Go.Proofs.Ytcpgiadhmmmafaa
