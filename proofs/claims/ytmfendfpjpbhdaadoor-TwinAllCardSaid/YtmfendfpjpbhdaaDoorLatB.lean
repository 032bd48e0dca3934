/- Package lattice: whether all pairs of levels have bounds; Len, is, Le. -/
import Derived.Test.YtmfendfpjpbhdaaDoorLatA
namespace Go.Proofs.YtmfendfpjpbhdaaDoor
open Go.RowKit Go.Maps
set_option maxHeartbeats 3200000

theorem TabOk.later {w w' : World} (h : TabOk w) (hb : Below w.heap.size w w') : TabOk w' := fun j hj => cell_later hb (h j hj)
/-- Sets of levels in memory. -/
structure SetsIn (w : World) (b off : Nat) (s : Nat → Nat) : Prop where
  cell : ∀ i, i < 32 → w.cell? ⟨b, off + i, none⟩ = some (.int .u32 (s i))
  lt : ∀ i, i < 32 → s i < 4294967296
theorem SetsIn.later {w w' : World} {b off : Nat} {s : Nat → Nat} (h : SetsIn w b off s) (hb : Below w.heap.size w w') : SetsIn w' b off s := ⟨fun i hi => cell_later hb (h.cell i hi), h.lt⟩
/-- All pairs have a bound. -/
def WholeB (n : Nat) (s : Nat → Nat) : Prop := ∀ i, i < n → ∀ k, k < n → ∃ c, (s i &&& s k).testBit c = true ∧ SubB (s i &&& s k) (s c)
theorem bound_neg {x : Nat} {s : Nat → Nat} {r : Int} (h : BoundIs x s r) : r < 0 ↔ ¬ ∃ c, x.testBit c = true ∧ SubB x (s c) := by
  rcases h with ⟨c, rfl, -, h1, h2⟩ | ⟨rfl, h⟩
  · exact ⟨fun h => by omega, fun h => absurd ⟨c, h1, h2⟩ h⟩
  · exact ⟨fun _ ⟨c, h1, h2⟩ => h c h1 h2, fun _ => by omega⟩
set_option maxRecDepth 100000 in
theorem whole_any (wa : World) (b off nb n : Nat) (s : Nat → Nat) (hs : SetsIn wa b off s) (hT : TabOk wa) (hn : n ≤ 32) (hc : wa.cell? ⟨nb, 0, none⟩ = some (.int .i64 n)) :
    Calls Tryd.prog 30 #[.pointer (some ⟨b, off, none⟩), .pointer (some ⟨nb, 0, none⟩)] wa fun e w' => ∃ B, e = .returned (.bool B) ∧ (B = true ↔ WholeB n s) ∧ Below wa.heap.size wa w' := by
  have HS := Lib.hid (And.intro hs hT); have HC := Lib.hid hc
  clear hs hT
  go_enter Tryd.func30, Tryd.ntmps30
  go_wp2
  clear hc
  go_loopw [7] (fun v wx => ∃ i : Nat, i ≤ n ∧ v = .int .i64 i ∧ (∀ i', i' < i → ∀ k, k < n → ∃ c, (s i' &&& s k).testBit c = true ∧ SubB (s i' &&& s k) (s c)) ∧ Below wa.heap.size wa wx) (fun v _ => n - (intOf v).toNat)
  case atStart => exact ⟨0, by omega, rfl, fun i' h => by omega, Below.refl _ _⟩
  case round =>
    obtain ⟨i, hi, rfl, hall, hb⟩ := hrel
    have HALL := Lib.hid hall; have HB := Lib.hid hb
    have hc := cell_later hb HC.out
    clear hall hb
    by_cases hlt : i < n
    · have hlt' : (i : Int) < (n : Int) := by omega
      go_wp2
      clear hc
      go_loopw [11] (fun v wx => ∃ k : Nat, k ≤ n ∧ v = .int .i64 k ∧ (∀ k', k' < k → ∃ c, (s i &&& s k').testBit c = true ∧ SubB (s i &&& s k') (s c)) ∧ Below wa.heap.size wa wx) (fun v _ => n - (intOf v).toNat)
      case atStart => exact ⟨0, by omega, rfl, fun i' h => by omega, HB.out⟩
      case round =>
        obtain ⟨k, hk, rfl, hin, hb⟩ := hrel
        have HIN := Lib.hid hin
        clear hin
        by_cases hkl : k < n
        · have hkl' : (k : Int) < (n : Int) := by omega
          have hi32 : (i : Int) < 32 := by omega
          have hk32 : (k : Int) < 32 := by omega
          have hi0 : (0 : Int) ≤ (i : Int) := by omega
          have hk0 : (0 : Int) ≤ (k : Int) := by omega
          have d0 := cell_later hb (HS.out.1.cell i (by omega))
          have d1 := cell_later hb (HS.out.1.cell k (by omega))
          have hand := and32 (s i) (s k) (HS.out.1.lt i (by omega)) (HS.out.1.lt k (by omega))
          have hx : s i &&& s k < 4294967296 := Nat.lt_of_le_of_lt Nat.and_le_left (HS.out.1.lt i (by omega))
          have hb2 : Below wa.heap.size wa wr.drew := below_drewN hb 1
          have hbd := bound_any wr.drew b off s (s i &&& s k) hx (HS.out.1.later hb2).cell HS.out.1.lt (HS.out.2.later hb2)
          have HBD := Lib.hid hbd; have HB2 := Lib.hid hb2
          clear hb hbd hb2
          go_wp2
          go_still_tail 12, (by kernel_rfl)
          simp only [World.drew_eq]
          go_wp2_with fail
          go_at_call 31
          refine HBD.out.mono ?_
          rintro e w2 ⟨r, rfl, hr, rfl⟩
          have HR := Lib.hid hr
          have hrn := bound_neg hr
          clear hr
          by_cases hneg : r < 0
          · have HN := Lib.hid (hrn.1 hneg)
            clear hrn
            go_wp2
            go_ret
            refine ⟨false, rfl, ⟨fun h => (by cases h), fun h => ?_⟩, HB2.out⟩
            exact absurd (h i hlt k hkl) HN.out
          · have HN := Lib.hid (Classical.not_not.1 (fun h => hneg (hrn.2 h)))
            clear hrn
            go_wp2
            go_roundw
            case rel =>
              refine ⟨k + 1, by omega, by go_num, fun k' hk' => ?_, HB2.out⟩
              by_cases e : k' = k
              · subst e; exact HN.out
              · exact HIN.out k' (by omega)
            case measure => simp [intOf]; omega
        · obtain rfl : k = n := by omega
          have hkl' : ¬ (k : Int) < (k : Int) := by omega
          have HB2 := Lib.hid hb
          clear hb
          go_wp2
          go_roundw
          case rel =>
            refine ⟨i + 1, by omega, by go_num, fun i' hi' k' hk' => ?_, HB2.out⟩
            by_cases e : i' = i
            · subst e; exact HIN.out k' hk'
            · exact HALL.out i' (by omega) k' hk'
          case measure => simp [intOf]; omega
    · obtain rfl : i = n := by omega
      have hlt' : ¬ (i : Int) < (i : Int) := by omega
      go_wp2
      go_ret
      exact .inr ⟨rfl, HALL.out, HB.out⟩
end Go.Proofs.YtmfendfpjpbhdaaDoor
