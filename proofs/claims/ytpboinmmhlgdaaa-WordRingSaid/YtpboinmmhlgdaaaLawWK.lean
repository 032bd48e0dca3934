/- WordRing: the whole law. -/
import Derived.Test.YtpboinmmhlgdaaaRingD
namespace Go.Proofs.Ytpboinmmhlgdaaa
open Go.RowKit
set_option maxHeartbeats 3200000

set_option maxRecDepth 100000 in
set_option maxHeartbeats 200000000 in
theorem wordRing_nat (Wi : Int) (X Y Z : Nat) (hW0 : 0 ≤ Wi) (hW1 : Wi ≤ 255) (hx : U64N X) (hy : U64N Y) (hz : U64N Z) (w : World) :
    Calls Try.prog 3 #[.int .u8 Wi, .int .u64 X, .int .u64 Y, .int .u64 Z] w fun e w' => e = .returned (.bool true) ∧ Below w.heap.size w w' := by
  go_enter Try.func3, Try.ntmps3
  go_wp2_with fail
  refine (with_any _ hW0 hW1 _).mono ?_
  rintro e w0 ⟨rfl, hcs0, -⟩
  obtain ⟨W, hW⟩ : ∃ W, 1 + Wi.toNat % 64 = W := ⟨_, rfl⟩
  rw [hW] at hcs0
  have h1 : 1 ≤ W := by omega
  have h2 : W ≤ 64 := by omega
  clear hW
  obtain ⟨cb, hcb⟩ : ∃ cb, w.heap.size = cb := ⟨_, rfl⟩
  have hcc : CC cb W w0 := by rw [← hcb]; exact hcs0.1
  have hb0 : Below w.heap.size w w0 := hcs0.2.1
  rw [hcb]
  have HC0 := Lib.hid hcc; have HB0 := Lib.hid hb0
  clear hcs0 hcb hcc hb0
  go_upto_block 0 with fail
  go_cut [10] (fun _ wx => Below w0.heap.size w0 wx)
  case first => as_aux_lemma =>
    go_wp2
    go_loopw [10] (fun i wr => ∃ k : Nat, 2 ≤ k ∧ k ≤ 22 ∧ i = .int .u8 k ∧ Below w0.heap.size w0 wr) (fun i _ => 22 - (intOf i).toNat)
    case atStart => exact ⟨2, by omega, by omega, rfl, Below.refl _ _⟩
    case round => as_aux_lemma =>
      obtain ⟨k, hk2, hk, rfl, hbr⟩ := hrel
      by_cases hlt : k < 22
      · have HCR := Lib.hid (HC0.out.later hbr); have HBR := Lib.hid hbr
        clear hbr
        have HH := Held.none wr
        have HR : Reach wr wr := Below.refl _ _
        by_cases hcom : k = 4 ∨ k = 6 ∨ k = 9 ∨ k = 10 ∨ k = 11 ∨ k = 15 ∨ k = 16
        · have HOK : 4 ≤ k ∧ k ≤ 20 := by omega
          have HCM := Lib.hid (decide_eq_true hcom)
          have HE : (((wm W k X Y : Nat) : Int) != ((wm W k Y X : Nat) : Int)) = false := by rw [m_comm W k X Y hcom]; simp
          clear hcom
          go_wp2_with (first | (go_at_call 5; refine (commutes_any k (by omega) _).mono ?_; rw [HCM.out]; rintro e w' ⟨rfl, rfl⟩) | (go_at_call 6; (with_reducible apply of_arm' HCR.out h1 h2 HH HR HOK); (case al => (repeat' (with_reducible (first | exact Al2.nil | apply Al2.drew | apply Al2.push | apply Al2.push0 | apply Al2.push1 | assumption | exact u64_wm h1 h2)))); (case hm => (simp only [List.cons_append, List.nil_append, al_size, dr_size]; with_reducible (first | exact mhd | exact mtl mhd | exact mtl (mtl mhd) | exact mtl (mtl (mtl mhd)) | exact mtl (mtl (mtl (mtl mhd))) | exact mtl (mtl (mtl (mtl (mtl mhd))))))); intro wk HH HR))
          go_roundw
          case rel => exact ⟨k + 1, by omega, by omega, by go_num, HBR.out.trans (HR.mono HBR.out.size)⟩
          case measure => simp [intOf]; omega
        · have HCM := Lib.hid (decide_eq_false hcom)
          clear hcom
          go_wp2_with (first | (go_at_call 5; refine (commutes_any k (by omega) _).mono ?_; rw [HCM.out]; rintro e w' ⟨rfl, rfl⟩))
          go_roundw
          case rel => exact ⟨k + 1, by omega, by omega, by go_num, HBR.out⟩
          case measure => simp [intOf]; omega
      · obtain rfl : k = 22 := by omega
        go_wp2
        go_meet
        exact hbr
  case rest =>
    have HB1 := Lib.hid (HB0.out.trans (hcut.mono HB0.out.size)); have HC1 := Lib.hid (HC0.out.later hcut)
    exact (show ∀ (a : Act) (w : World), Code.wp Try.prog (ringRest 7) _ a w → _ by assumption) _ _ (ring_rest7 HB1.out HC1.out h1 h2 hx hy hz)
theorem wordRing_walk (Wi x y z : Int) (hW0 : 0 ≤ Wi) (hW1 : Wi ≤ 255) (hx : 0 ≤ x ∧ x ≤ 18446744073709551615) (hy : 0 ≤ y ∧ y ≤ 18446744073709551615) (hz : 0 ≤ z ∧ z ≤ 18446744073709551615) (w : World) :
    Calls Try.prog 3 #[.int .u8 Wi, .int .u64 x, .int .u64 y, .int .u64 z] w fun e w' => e = .returned (.bool true) ∧ Below w.heap.size w w' := by
  obtain ⟨X, rfl⟩ := Int.eq_ofNat_of_zero_le hx.1
  obtain ⟨Y, rfl⟩ := Int.eq_ofNat_of_zero_le hy.1
  obtain ⟨Z, rfl⟩ := Int.eq_ofNat_of_zero_le hz.1
  exact wordRing_nat Wi X Y Z hW0 hW1 (by unfold U64N; omega) (by unfold U64N; omega) (by unfold U64N; omega) w
end Go.Proofs.Ytpboinmmhlgdaaa
