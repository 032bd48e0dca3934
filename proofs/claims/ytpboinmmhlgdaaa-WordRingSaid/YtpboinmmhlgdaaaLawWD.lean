/- Laws of words: the calculator of the statements. -/
import Derived.Test.YtpboinmmhlgdaaaLawWA
import Derived.Test.YtpboinmmhlgdaaaPlainA
namespace Go.Proofs.Ytpboinmmhlgdaaa
open Go.RowKit
set_option maxHeartbeats 400000

/-- The calculator in memory, no error met so far; nothing that was there at the beginning has turned. -/
def CS (w0 : World) (cb W : Nat) (w : World) : Prop := w.heap[cb]? = some (.cells #[.int .i64 W, .bool false] 32 (0, 0)) ∧ Below w0.heap.size w0 w ∧ w0.heap.size ≤ cb
theorem CS.later {w0 w w' : World} {cb W : Nat} (h : CS w0 cb W w) (hb : Below w.heap.size w w') : CS w0 cb W w' :=
  ⟨by rw [hb.block cb (Array.getElem?_eq_some_iff.1 h.1).1]; exact h.1, h.2.1.trans (hb.mono h.2.1.size), h.2.2⟩
theorem CS.alloc {w0 w : World} {cb W : Nat} (h : CS w0 cb W w) (o : Obj) : CS w0 cb W (w.alloc o) := h.later (below_new w o)
theorem CS.store {w0 w : World} {cb W : Nat} (h : CS w0 cb W w) : CS w0 cb W (w.setCell ⟨cb, 1, none⟩ (.bool false)) :=
  ⟨by rw [heap_setCell_same w cb 1 _ _ _ h.1]; rfl, h.2.1.setCell h.2.2 _, h.2.2⟩
theorem CS.c0 {w0 w : World} {cb W : Nat} (h : CS w0 cb W w) : w.cell? ⟨cb, 0, none⟩ = some (.int .i64 W) := by rw [cell_of_row w cb 0 _ _ _ h.1]; rfl
theorem CS.c1 {w0 w : World} {cb W : Nat} (h : CS w0 cb W w) : w.cell? ⟨cb, 1, none⟩ = some (.bool false) := by rw [cell_of_row w cb 1 _ _ _ h.1]; rfl
theorem CS.f1 {w0 w : World} {cb W : Nat} (h : CS w0 cb W w) : w.frozen? ⟨cb, 1, none⟩ = false := frozen_of_row w cb 1 _ _ h.1
theorem CS.f0 {w0 w : World} {cb W : Nat} (h : CS w0 cb W w) : w.frozen? ⟨cb, 0, none⟩ = false := frozen_of_row w cb 0 _ _ h.1

theorem with_any (W : Int) (h0 : 0 ≤ W) (h1 : W ≤ 255) (w : World) :
    Calls Try.prog 4 #[.int .u8 W] w fun e w' => e = .returned (.pointer (some ⟨w.heap.size, 0, none⟩)) ∧ CS w w.heap.size (1 + W.toNat % 64) w' ∧ w.heap.size < w'.heap.size := by
  obtain ⟨n, rfl⟩ := Int.eq_ofNat_of_zero_le h0
  go_enter Try.func4, Try.ntmps4
  go_wp2
  go_ret
  refine ⟨rfl, ⟨?_, below_new w _, Nat.le_refl _⟩, by simp⟩
  rw [heap_alloc_new]
  simp
theorem trimI_nat (W : Nat) (h1 : 1 ≤ W) (h2 : W ≤ 64) (v : Int) : trimI W v = ((v.toNat % 2 ^ W : Nat) : Int) := by
  unfold trimI; rw [if_pos (chk_in (by omega) (by omega))]; simp
theorem ctrim_any (w0 : World) (cb W : Nat) (h1 : 1 ≤ W) (h2 : W ≤ 64) (v : Int) (hv0 : 0 ≤ v) (hv1 : v ≤ 18446744073709551615) (w : World) (hcs : CS w0 cb W w) :
    Calls Try.prog 7 #[.pointer (some ⟨cb, 0, none⟩), .int .u64 v] w fun e w' => ∃ r : Nat, e = .returned (.int .u64 r) ∧ r ≤ 18446744073709551615 ∧ Hid (r = v.toNat % 2 ^ W) ∧ CS w0 cb W w' := by
  have c0 := hcs.c0
  have c1 := hcs.c1
  have f1 := hcs.f1
  have hc : chk (W : Int) = 0 := chk_in (by omega) (by omega)
  have ht := trimI_nat W h1 h2 v
  obtain ⟨r, er⟩ : ∃ r, v.toNat % 2 ^ W = r := ⟨_, rfl⟩
  rw [er] at ht
  have Er := Lib.hid er; clear er
  have Hcs := Lib.hid hcs; clear hcs
  go_enter Try.func7, Try.ntmps7
  go_wp2_with (go_at_call 10; refine (trim_any _ _ hv0 hv1 _).mono ?_; rintro e w' ⟨rfl, rfl⟩)
  go_ret
  exact ⟨r, rfl, by have := Nat.mod_le v.toNat (2 ^ W); rw [Er.out] at this; omega, Er.out.symm, Hcs.out.store⟩
def wN (o W : Nat) (xs : List Int) : Nat := wop W o (wA W xs 0) (wA W xs 1) (wA W xs 2)
theorem wN_le (o W : Nat) (xs : List Int) (h1 : 1 ≤ W) (h2 : W ≤ 64) : wN o W xs ≤ 18446744073709551615 := by
  have hp := pow_le64 h2
  have hq := pow_pos2 W
  have := wop_lt W o (wA W xs 0) (wA W xs 1) (wA W xs 2) h1 (Nat.mod_lt _ hq) (Nat.mod_lt _ hq) (Nat.mod_lt _ hq)
  unfold wN; omega
theorem wE_ok {o W n : Nat} (h1 : 1 ≤ W) (h2 : W ≤ 64) (ho1 : 2 ≤ o) (ho2 : o ≤ 21) (h : aryN o = n) : wE o W n = 0 := by
  unfold wE; rw [if_neg (by omega), if_neg (by omega), if_pos (by simpa using h)]
theorem of_any (w0 : World) (cb W : Nat) (h1 : 1 ≤ W) (h2 : W ≤ 64) (o : Int) (ho1 : 2 ≤ o) (ho2 : o ≤ 21) (v : Value) (xs : List Int) (w : World) (hs : SliceOf w .u64 v xs) (hx : U64s xs) (hl : aryN o.toNat = xs.length) (hcs : CS w0 cb W w) :
    Calls Try.prog 6 #[.pointer (some ⟨cb, 0, none⟩), .int .u8 o, v] w fun e w' => ∃ r : Nat, e = .returned (.int .u64 r) ∧ r ≤ 18446744073709551615 ∧ Hid (r = wN o.toNat W xs) ∧ CS w0 cb W w' := by
  obtain ⟨O, rfl⟩ := Int.eq_ofNat_of_zero_le (show 0 ≤ o by omega)
  have c0 := hcs.c0
  have hE : wE O W xs.length = 0 := wE_ok h1 h2 (by omega) (by omega) hl
  have hI : wI O W xs = ((wN O W xs : Nat) : Int) := by unfold wI; rw [if_pos hE]; rfl
  obtain ⟨r, er⟩ : ∃ r, wN O W xs = r := ⟨_, rfl⟩
  have hle := wN_le O W xs h1 h2
  rw [er] at hI hle
  have hln : xs.length ≤ 9223372036854775807 := by have := aryN_le (O : Int).toNat; omega
  have HA := Lib.hid (apply_any O W (by omega) (by omega) v xs w hs hx hln)
  have Er := Lib.hid er; clear er
  have Hcs := Lib.hid hcs; clear hcs hs hx hl hln
  go_enter Try.func6, Try.ntmps6
  go_wp2_with (go_at_call 9; refine HA.out.mono ?_; rintro e w1 ⟨rfl, hb1⟩; have hc1 := Lib.hid (Hcs.out.later hb1); have k1 := hc1.out.c1; have k2 := hc1.out.f1; clear hb1 c0)
  go_ret
  exact ⟨r, rfl, hle, by show r = _; rw [Int.toNat_natCast]; exact Er.out.symm, (by assumption : Hid (CS w0 cb W _)).out.store⟩

section
variable (w0 : World) (cb W : Nat) (h1 : 1 ≤ W) (h2 : W ≤ 64) (o : Int)
include h1 h2
theorem of1 (x : Int) (hx0 : 0 ≤ x) (hx1 : x ≤ 18446744073709551615) (ho : o = 2 ∨ o = 3) (w : World) (hcs : CS w0 cb W w) :
    Calls Try.prog 6 #[.pointer (some ⟨cb, 0, none⟩), .int .u8 o, .slice (some ⟨w.heap.size, 0, none⟩) 1 1] (w.alloc (.cells #[.int .u64 x] 22)) fun e w' => ∃ r : Nat, e = .returned (.int .u64 r) ∧ r ≤ 18446744073709551615 ∧ Hid (r = wN o.toNat W [x]) ∧ CS w0 cb W w' :=
  of_any w0 cb W h1 h2 o (by omega) (by omega) _ [x] _ (sliceOf_new w .u64 22 [x] 1) (by intro n hn; simp at hn; omega) (by rcases ho with rfl | rfl <;> rfl) (hcs.alloc _)
theorem of2 (x y : Int) (hx0 : 0 ≤ x) (hx1 : x ≤ 18446744073709551615) (hy0 : 0 ≤ y) (hy1 : y ≤ 18446744073709551615) (ho1 : 4 ≤ o) (ho2 : o ≤ 20) (w : World) (hcs : CS w0 cb W w) :
    Calls Try.prog 6 #[.pointer (some ⟨cb, 0, none⟩), .int .u8 o, .slice (some ⟨w.heap.size, 0, none⟩) 2 2] (w.alloc (.cells #[.int .u64 x, .int .u64 y] 22)) fun e w' => ∃ r : Nat, e = .returned (.int .u64 r) ∧ r ≤ 18446744073709551615 ∧ Hid (r = wN o.toNat W [x, y]) ∧ CS w0 cb W w' :=
  of_any w0 cb W h1 h2 o (by omega) (by omega) _ [x, y] _ (sliceOf_new w .u64 22 [x, y] 2) (by intro n hn; simp at hn; omega) (by unfold aryN; rw [if_neg (by omega), if_neg (by omega), if_neg (by omega)]; rfl) (hcs.alloc _)
end
/-- 'known', in a world that holds a calculator. -/
theorem known_cs (w0 : World) (cb W : Nat) (w : World) (hcs : CS w0 cb W w) :
    Calls Try.prog 8 #[] w fun e w' => e = .returned (.bool true) ∧ CS w0 cb W w' :=
  (known_any w).mono fun _ _ ⟨he, hb⟩ => ⟨he, hcs.later hb⟩
theorem wN1 (o W : Nat) (x : Int) : wN o W [x] = wm W o x.toNat 0 := by simp [wN, wA, wm]
theorem wN2 (o W : Nat) (x y : Int) : wN o W [x, y] = wm W o x.toNat y.toNat := by simp [wN, wA, wm]
end Go.Proofs.Ytpboinmmhlgdaaa
