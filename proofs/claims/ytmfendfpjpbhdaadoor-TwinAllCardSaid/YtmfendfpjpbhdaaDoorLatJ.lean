/- Both lattices; whether a list is short; awake. -/
import Derived.Test.YtmfendfpjpbhdaaDoorLatI
namespace Go.Proofs.YtmfendfpjpbhdaaDoor
open Go.RowKit Go.Maps
set_option maxHeartbeats 3200000

theorem few_any (w : World) (a1 a2 : Option Addr) (n1 c1 n2 c2 : Nat) : Calls Tryd.prog 6 #[.slice a1 n1 c1, .slice a2 n2 c2, .slice none 0 0] w fun e w' => e = .returned (.bool (decide (n1 ≤ 30 ∧ n2 ≤ 40))) ∧ w = w' := by
  go_enter Tryd.func6, Tryd.ntmps6
  by_cases h1 : n1 ≤ 30
  · have h1' : (n1 : Int) ≤ 30 := by omega
    by_cases h2 : n2 ≤ 40
    · have h2' : (n2 : Int) ≤ 40 := by omega
      rw [decide_eq_true (And.intro h1 h2)]
      go_wp2
      go_ret
      exact ⟨rfl, rfl⟩
    · have h2' : ¬ (n2 : Int) ≤ 40 := by omega
      rw [decide_eq_false (fun h => h2 h.2)]
      go_wp2
      go_ret
      exact ⟨rfl, rfl⟩
  · have h1' : ¬ (n1 : Int) ≤ 30 := by omega
    rw [decide_eq_false (fun h => h1 h.1)]
    go_wp2
    go_ret
    exact ⟨rfl, rfl⟩
theorem lattices_any {w0 wr : World} (hb : Below w0.heap.size w0 wr) (nI : Int) (v : Value) (os : List (Int × Int)) (hv : PairsOf w0 v os) (hn : os.length ≤ 9223372036854775807) (hT : TabOk w0) :
    Calls Tryd.prog 8 #[.int .i64 nI, v] wr fun e w' =>
      (latE nI os = 0 → ∃ lb xb, e = .returned (.tuple #[.pointer (some ⟨lb, 0, none⟩), .pointer (some ⟨xb, 0, none⟩), .bool true]) ∧ LatIs w' lb nI.toNat (latR nI.toNat os) ∧ MatIs w' xb nI.toNat (latR nI.toNat os) ∧ Below w0.heap.size w0 w') ∧
      (latE nI os ≠ 0 → e = .returned (.tuple #[.pointer none, .pointer none, .bool true]) ∧ Below w0.heap.size w0 w') := by
  have H1 := Lib.hid ((Lab.nil hb).lat_new nI v os hv hn hT)
  have HV := Lib.hid hv
  go_enter Tryd.func8, Tryd.ntmps8
  obtain ⟨a, n, c, rfl, hol, -⟩ := hv
  go_wp2_with fail
  go_at_call 17
  refine H1.out.mono ?_
  rintro e w1 ⟨h0, h1⟩
  by_cases he : latE nI os = 0
  · obtain ⟨lb, u, d, rfl, hu, hd, hl⟩ := h0 he
    have hle : nI.toNat ≤ 32 := by
      unfold latE at he
      split at he
      · cases he
      · omega
    have H2 := Lib.hid (hl.ref_new nI _ os HV.out hn)
    have HE := Lib.hid he; have HU := Lib.hid hu; have HLE := Lib.hid hle
    clear h0 h1 he hu hd hl hle
    go_wp2_with fail
    go_at_call 18
    refine H2.out.mono ?_
    rintro e w2 ⟨h2, -⟩
    obtain ⟨xb, rfl, hm, hl⟩ := h2 HE.out
    have HM := Lib.hid hm; have HL := Lib.hid hl
    clear h2 hm hl
    go_wp2
    go_ret3
    exact ⟨fun _ => ⟨lb, xb, rfl, ⟨⟨u, d, HL.out.fn1, HU.out⟩, HLE.out⟩, HM.out, HL.out.below⟩, fun h => absurd HE.out h⟩
  · obtain ⟨rfl, hl⟩ := h1 he
    have H2 := Lib.hid (hl.ref_new nI _ os HV.out hn)
    have HE := Lib.hid he
    obtain ⟨E, hE⟩ : ∃ E, latE nI os = E := ⟨_, rfl⟩
    have HEE := Lib.hid hE
    rw [hE]
    rw [hE] at H2
    clear h0 h1 he hl hE
    go_wp2_with fail
    go_at_call 18
    refine H2.out.mono ?_
    rintro e w2 ⟨-, h2⟩
    obtain ⟨rfl, hl⟩ := h2 (by rw [← HEE.out]; exact HE.out)
    have HL := Lib.hid hl
    clear h2 hl
    go_wp2
    go_ret3
    exact ⟨fun h => absurd h (by first | exact HE.out | (rw [← HEE.out]; exact HE.out)), fun _ => ⟨rfl, HL.out.below⟩⟩
theorem latE_two : latE 2 [(0, 1)] = 0 := by
  have h := latE_rest (n := 2) (os := [(0, 1)]) (by decide) (by decide) (by decide) (by intro p hp; simp at hp; subst hp; unfold badP; decide) (R := latR 2 [(0, 1)]) rfl
  refine h.2.1 ?_ ⟨?_, ?_⟩
  · rintro ⟨i, j, hi, hj, hne, h1, h2⟩
    have hd : ∀ i, i < 2 → ∀ j, j < 2 → i ≠ j → latR 2 [(0, 1)] i j = true → latR 2 [(0, 1)] j i = true → False := by decide
    exact hd i hi j hj hne h1 h2
  · unfold Joins; decide
  · unfold Joins rev; decide
theorem pairs_two (w : World) {b : Nat} (h : w.heap[b]? = some (.cells #[.int .i64 0, .int .i64 1] 67 (0, 0))) : PairsOf w (.slice (some ⟨b, 0, none⟩) 1 1) [(0, 1)] := by
  refine ⟨_, _, _, rfl, rfl, fun i hi => ?_⟩
  obtain rfl : i = 0 := by omega
  exact ⟨b, 0, (0, 1), rfl, rfl, by rw [cell_of_row _ b _ _ _ _ h]; rfl, by rw [cell_of_row _ b _ _ _ _ h]; rfl⟩
theorem two_any (w : World) (hT : TabOk w) : Calls Tryd.prog 16 #[] w fun e w' => ∃ lb, e = .returned (.pointer (some ⟨lb, 0, none⟩)) ∧ LatIs w' lb 2 (latR 2 [(0, 1)]) ∧ Below w.heap.size w w' := by
  have hb := below_new w (.cells #[.int .i64 0, .int .i64 1] 67)
  have hp := pairs_two (w.alloc (.cells #[.int .i64 0, .int .i64 1] 67)) (heap_alloc_new w _)
  have H1 := Lib.hid ((Lab.nil (Below.refl _ (w.alloc (.cells #[.int .i64 0, .int .i64 1] 67)))).lat_new 2 _ _ hp (by decide) (hT.later hb))
  have HB := Lib.hid hb
  clear hp hT hb
  go_enter Tryd.func16, Tryd.ntmps16
  go_wp2_with fail
  go_at_call 17
  refine H1.out.mono ?_
  rintro e w1 ⟨h0, -⟩
  obtain ⟨lb, u, d, rfl, hu, hd, hl⟩ := h0 latE_two
  have HU := Lib.hid hu; have HL := Lib.hid hl
  clear h0 hu hd hl H1
  go_wp2
  go_ret
  exact ⟨lb, rfl, ⟨⟨u, d, HL.out.fn1, HU.out⟩, by decide⟩, HB.out.trans (HL.out.below.mono (by simp))⟩
end Go.Proofs.YtmfendfpjpbhdaaDoor
