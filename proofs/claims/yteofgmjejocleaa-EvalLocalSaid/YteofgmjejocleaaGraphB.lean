/- New, Len, Width of package term. -/
import Derived.Test.YteofgmjejocleaaGraphA
import Derived.BigQuiet
import Derived.Deep.QuietTactic
import Derived.Deep.RegionHeld3
namespace Go.Proofs.Yteofgmjejocleaa
open Go.RowKit Go.Maps
set_option maxHeartbeats 400000

theorem Gr.parts {w : World} {base : Nat} {F I : List Nat} {gb W room : Nat} {L : List PNode} (h : Gr w base F I gb W room L) :
    ∃ a cap mb, w.cell? ⟨gb, 0, none⟩ = some (.int .i64 W) ∧ w.cell? ⟨gb, 1, none⟩ = some (.int .i64 room) ∧ w.cell? ⟨gb, 2, none⟩ = some (.slice a L.length cap) ∧ w.cell? ⟨gb, 3, none⟩ = some (.map (some mb)) ∧
      (∀ i, w.frozen? ⟨gb, i, none⟩ = false) ∧ MapIs Try.prog 98 w mb (gm L) ∧ L.length ≤ 1048576 := by
  obtain ⟨sv, mb, cells, rfl, h1, h2, h3, h4, h5, h6⟩ := h.mem
  obtain ⟨a, cap, rfl⟩ : ∃ a cap, sv = .slice a L.length cap := by
    rcases h4.2 with ⟨rfl, h0⟩ | ⟨g, cap, cur, rfl, _⟩
    · exact ⟨none, 0, by rw [h0]⟩
    · exact ⟨_, _, rfl⟩
  have hl := h.len
  have hr := h.r2
  exact ⟨a, cap, mb, by rw [cell_of_row w gb 0 _ _ _ h3]; rfl, by rw [cell_of_row w gb 1 _ _ _ h3]; rfl, by rw [cell_of_row w gb 2 _ _ _ h3]; rfl, by rw [cell_of_row w gb 3 _ _ _ h3]; rfl,
    fun i => frozen_of_row w gb i _ _ h3, h6, by omega⟩
theorem Gr.mono {w : World} {base base' : Nat} {F I : List Nat} {gb W room : Nat} {L : List PNode} (h : Gr w base F I gb W room L) (hb : base' ≤ base) : Gr w base' F I gb W room L := by
  obtain ⟨sv, mb, cells, hF, h1, h2, h3, h4, h5, h6⟩ := h.mem
  refine ⟨h.wf, h.len, h.w1, h.w2, h.r2, sv, mb, cells, hF, by omega, by omega, h3, ⟨h4.1, ?_⟩, h5, h6⟩
  rcases h4.2 with hn | ⟨g, cap, cur, hv, hg, r⟩
  · exact .inl hn
  · exact .inr ⟨g, cap, cur, hv, by omega, r⟩

theorem len_any {w : World} {base : Nat} {F I : List Nat} {gb W room : Nat} {L : List PNode} (h : Gr w base F I gb W room L) :
    Calls Try.prog 26 #[.pointer (some ⟨gb, 0, none⟩)] w fun e w' => e = .returned (.int .i64 L.length) ∧ w = w' := by
  obtain ⟨a, cap, mb, c0, c1, c2, c3, cf, cm, hl⟩ := h.parts
  clear h cf cm
  go_enter Try.func26, Try.ntmps26
  go_wp2
  go_ret
  exact ⟨rfl, rfl⟩
theorem len_nil (w : World) : Calls Try.prog 26 #[.pointer none] w fun e w' => e = .returned (.int .i64 0) ∧ w = w' := by
  go_enter Try.func26, Try.ntmps26
  go_wp2
  go_ret
  exact ⟨rfl, rfl⟩
theorem width_any {w : World} {base : Nat} {F I : List Nat} {gb W room : Nat} {L : List PNode} (h : Gr w base F I gb W room L) :
    Calls Try.prog 20 #[.pointer (some ⟨gb, 0, none⟩)] w fun e w' => e = .returned (.int .i64 W) ∧ w = w' := by
  obtain ⟨a, cap, mb, c0, c1, c2, c3, cf, cm, hl⟩ := h.parts
  clear h cf cm
  go_enter Try.func20, Try.ntmps20
  go_wp2
  go_ret
  exact ⟨rfl, rfl⟩
theorem width_nil (w : World) : Calls Try.prog 20 #[.pointer none] w fun e w' => e = .returned (.int .i64 0) ∧ w = w' := by
  go_enter Try.func20, Try.ntmps20
  go_wp2
  go_ret
  exact ⟨rfl, rfl⟩
def newOk (W most : Int) : Prop := 1 ≤ W ∧ W ≤ 64 ∧ 0 ≤ most ∧ most ≤ 1048576
def roomOf (most : Int) : Nat := if most = 0 then 1048576 else most.toNat
theorem new_bad (W most : Int) (h : ¬ newOk W most) (w : World) :
    Calls Try.prog 16 #[.int .i64 W, .int .i64 most] w fun e w' => e = .returned (.tuple #[.pointer none, .int .i64 3]) ∧ w = w' := by
  by_cases hW : 1 ≤ W ∧ W ≤ 64
  · have hc := chk_in hW.1 hW.2
    by_cases h0 : most < 0
    · go_enter Try.func16, Try.ntmps16
      go_wp2_with (go_at_call 32; refine (check_any _ _).mono ?_; rintro e w' ⟨rfl, rfl⟩)
      go_ret2
      exact ⟨rfl, rfl⟩
    · have h2 : 1048576 < most := by unfold newOk at h; omega
      clear h
      go_enter Try.func16, Try.ntmps16
      go_wp2_with (go_at_call 32; refine (check_any _ _).mono ?_; rintro e w' ⟨rfl, rfl⟩)
      go_ret2
      exact ⟨rfl, rfl⟩
  · have hc := chk_out hW
    clear h
    go_enter Try.func16, Try.ntmps16
    go_wp2_with (go_at_call 32; refine (check_any _ _).mono ?_; rintro e w' ⟨rfl, rfl⟩)
    go_ret2
    exact ⟨rfl, rfl⟩
theorem new_gr (W most : Nat) (h1 : 1 ≤ W) (h2 : W ≤ 64) (hm : most ≤ 1048576) (w : World) :
    Gr ((w.alloc (.map #[] 0)).alloc (.cells #[.int .i64 W, .int .i64 most, .slice none 0 0, .map (some w.heap.size)] 79)) w.heap.size [w.heap.size + 1, w.heap.size] [] (w.heap.size + 1) W most [] := by
  refine ⟨WFL.nil, by simp, h1, h2, hm, .slice none 0 0, w.heap.size, [], rfl, by omega, Nat.le_refl _, heap_alloc2_new _ _ _, World.ownsRow_nil _ _ _ _, NodeRow.nil _ _, ?_⟩
  exact (MapIs.new w).below (below_new _ _)
theorem new_any (W most : Int) (h : newOk W most) (w : World) :
    Calls Try.prog 16 #[.int .i64 W, .int .i64 most] w fun e w' => ∃ gb F, e = .returned (.tuple #[.pointer (some ⟨gb, 0, none⟩), .int .i64 0]) ∧ Gr w' w.heap.size F [] gb W.toNat (roomOf most) [] ∧ Below w.heap.size w w' := by
  obtain ⟨h1, h2, h3, h4⟩ := h
  obtain ⟨n, rfl⟩ := Int.eq_ofNat_of_zero_le (show 0 ≤ W by omega)
  obtain ⟨m, rfl⟩ := Int.eq_ofNat_of_zero_le h3
  have hc := chk_in h1 h2
  have hmm := @run_makeMap Try.prog
  by_cases h0 : m = 0
  · subst h0
    have hr : roomOf ((0 : Nat) : Int) = 1048576 := rfl
    rw [hr]; clear hr
    go_enter Try.func16, Try.ntmps16
    go_wp2_with (go_at_call 32; refine (check_any _ _).mono ?_; rintro e w' ⟨rfl, rfl⟩)
    go_ret2
    exact ⟨w.heap.size + 1, _, by simp, new_gr n 1048576 (by omega) (by omega) (by omega) w, (below_new w _).alloc (by simp) _⟩
  · have hr : roomOf (m : Int) = m := by unfold roomOf; rw [if_neg (by omega)]; simp
    have hz : ((m : Int) == 0) = false := by rw [beq_eq_false_iff_ne]; omega
    rw [hr]; clear hr
    go_enter Try.func16, Try.ntmps16
    go_wp2_with (go_at_call 32; refine (check_any _ _).mono ?_; rintro e w' ⟨rfl, rfl⟩)
    go_ret2
    exact ⟨w.heap.size + 1, _, by simp, new_gr n m (by omega) (by omega) (by omega) w, (below_new w _).alloc (by simp) _⟩
end Go.Proofs.Yteofgmjejocleaa
