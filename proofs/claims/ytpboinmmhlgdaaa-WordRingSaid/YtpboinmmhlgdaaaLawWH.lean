/- Laws of words: the calculator, whose calls leave all memory as it is. -/
import Derived.Test.YtpboinmmhlgdaaaLawWF
import Derived.Test.YtpboinmmhlgdaaaPlainA
namespace Go.Proofs.Ytpboinmmhlgdaaa
open Go.RowKit
set_option maxHeartbeats 400000

/-- The world under a name: what is known of it is kept. -/
theorem wp_name {P : Program} {c : Code} {Q : Exit → Act → World → Prop} {a : Act} {w : World} (Φ : World → Prop) (hΦ : Φ w) (h : ∀ w', Φ w' → c.wp P Q a w') : c.wp P Q a w := h w hΦ
/-- A calculator in memory, no error met so far. -/
def CC (cb W : Nat) (w : World) : Prop := w.heap[cb]? = some (.cells #[.int .i64 W, .bool false] 32 (0, 0))
theorem CC.later {cb W : Nat} {w w' : World} (h : CC cb W w) (hb : Below w.heap.size w w') : CC cb W w' := by
  unfold CC at *
  rw [hb.block cb (Array.getElem?_eq_some_iff.1 h).1]; exact h
theorem CC.c0 {cb W : Nat} {w : World} (h : CC cb W w) : w.cell? ⟨cb, 0, none⟩ = some (.int .i64 W) := by rw [cell_of_row w cb 0 _ _ _ h]; rfl
theorem CC.c1 {cb W : Nat} {w : World} (h : CC cb W w) : w.cell? ⟨cb, 1, none⟩ = some (.bool false) := by rw [cell_of_row w cb 1 _ _ _ h]; rfl
theorem CC.f1 {cb W : Nat} {w : World} (h : CC cb W w) : w.frozen? ⟨cb, 1, none⟩ = false := frozen_of_row w cb 1 _ _ h
theorem CC.store {cb W : Nat} {w : World} (h : CC cb W w) : Below w.heap.size w (w.setCell ⟨cb, 1, none⟩ (.bool false)) := by
  refine ⟨rfl, rfl, rfl, by rw [World.size_setCell]; exact Nat.le_refl _, fun k hk => ?_⟩
  by_cases hkb : k = cb
  · subst hkb
    rw [heap_setCell_same w k 1 _ _ _ h, h]; rfl
  · exact heap_setCell_other _ _ _ _ hkb
theorem trim_b (cb W : Nat) (h1 : 1 ≤ W) (h2 : W ≤ 64) (v : Int) (hv0 : 0 ≤ v) (hv1 : v ≤ 18446744073709551615) (w : World) (hcs : CC cb W w) :
    Calls Try.prog 7 #[.pointer (some ⟨cb, 0, none⟩), .int .u64 v] w fun e w' => e = .returned (.int .u64 ((v.toNat % 2 ^ W : Nat) : Int)) ∧ Below w.heap.size w w' := by
  have c0 := hcs.c0
  have c1 := hcs.c1
  have f1 := hcs.f1
  have hc : chk (W : Int) = 0 := chk_in (by omega) (by omega)
  have ht := trimI_nat W h1 h2 v
  obtain ⟨r, er⟩ : ∃ r, v.toNat % 2 ^ W = r := ⟨_, rfl⟩
  rw [er] at ht ⊢
  have Er := Lib.hid er; clear er
  have Hcs := Lib.hid hcs; clear hcs
  go_enter Try.func7, Try.ntmps7
  go_wp2_with (go_at_call 10; refine (trim_any _ _ hv0 hv1 _).mono ?_; rintro e w' ⟨rfl, rfl⟩)
  go_ret
  exact ⟨rfl, Hcs.out.store⟩
theorem of_b (cb W : Nat) (h1 : 1 ≤ W) (h2 : W ≤ 64) (o : Int) (ho1 : 2 ≤ o) (ho2 : o ≤ 21) (v : Value) (xs : List Int) (w : World) (hs : SliceOf w .u64 v xs) (hx : U64s xs) (hl : aryN o.toNat = xs.length) (hcs : CC cb W w) :
    Calls Try.prog 6 #[.pointer (some ⟨cb, 0, none⟩), .int .u8 o, v] w fun e w' => e = .returned (.int .u64 ((wN o.toNat W xs : Nat) : Int)) ∧ Below w.heap.size w w' := by
  obtain ⟨O, rfl⟩ := Int.eq_ofNat_of_zero_le (show 0 ≤ o by omega)
  have c0 := hcs.c0
  have hE : wE O W xs.length = 0 := wE_ok h1 h2 (by omega) (by omega) hl
  have hI : wI O W xs = ((wN O W xs : Nat) : Int) := by unfold wI; rw [if_pos hE]; rfl
  rw [Int.toNat_natCast]
  obtain ⟨r, er⟩ : ∃ r, wN O W xs = r := ⟨_, rfl⟩
  rw [er] at hI ⊢
  have hln : xs.length ≤ 9223372036854775807 := by have := aryN_le (O : Int).toNat; omega
  have HA := Lib.hid (apply_any O W (by omega) (by omega) v xs w hs hx hln)
  have Er := Lib.hid er; clear er
  have Hcs := Lib.hid hcs; clear hcs hs hx hl hln
  go_enter Try.func6, Try.ntmps6
  go_wp2_with (go_at_call 9; refine HA.out.mono ?_; rintro e w1 ⟨rfl, hb1⟩; have hc1 := Lib.hid (Hcs.out.later hb1); have k1 := hc1.out.c1; have k2 := hc1.out.f1; have hb2 := Lib.hid hb1; clear hb1 c0)
  go_ret
  exact ⟨rfl, (by assumption : Hid (Below w.heap.size w _)).out.trans (((by assumption : Hid (CC cb W _)).out.store).mono (by assumption : Hid (Below w.heap.size w _)).out.size)⟩
theorem known_b (w : World) : Calls Try.prog 8 #[] w fun e w' => e = .returned (.bool true) ∧ Below w.heap.size w w' := known_any w
/-- The result of an operator on the first of some words. -/
theorem u64s3 {x y z : Int} (hx : 0 ≤ x ∧ x ≤ 18446744073709551615) (hy : 0 ≤ y ∧ y ≤ 18446744073709551615) (hz : 0 ≤ z ∧ z ≤ 18446744073709551615) (n : Nat) : U64s ([x, y, z].take n) := by
  intro q hq
  have hq := List.mem_of_mem_take hq
  simp at hq
  rcases hq with rfl | rfl | rfl <;> assumption
theorem wN_take1 (o W : Nat) (x y z : Int) : wN o W ([x, y, z].take 1) = wm W o x.toNat 0 := by rw [← wN1]; rfl
theorem wN_take2 (o W : Nat) (x y z : Int) : wN o W ([x, y, z].take 2) = wm W o x.toNat y.toNat := by rw [← wN2]; rfl
theorem sliceOf_take {w : World} {k : IntKind} {b off n cap : Nat} {xs : List Int} (h : SliceOf w k (.slice (some ⟨b, off, none⟩) n cap) xs) {m : Nat} (hm : m ≤ n) : SliceOf w k (.slice (some ⟨b, off, none⟩) m cap) (xs.take m) := by
  obtain ⟨a, n', c', e, hl, hc⟩ := h
  simp only [Value.slice.injEq] at e
  obtain ⟨rfl, rfl, rfl⟩ := e
  refine ⟨_, m, cap, rfl, by simp [hl, hm], fun i hi => ?_⟩
  obtain ⟨b', off', e, hcell⟩ := hc i (by omega)
  refine ⟨b', off', e, ?_⟩
  rw [hcell]
  congr 2
  rw [List.getD_eq_getElem?_getD, List.getD_eq_getElem?_getD, List.getElem?_take, if_pos hi]
end Go.Proofs.Ytpboinmmhlgdaaa
