/- StF, StLA, StS: joined by wip/bundle.py. -/
import Derived.Test.YtiklidgcmheofaaGreatDoorB1
import Derived.Test.YtiklidgcmheofaaGreatDoorB2
import Derived.Test.YtiklidgcmheofaaGreatDoorB3
import Derived.Test.YtiklidgcmheofaaGreatDoorB4
import Derived.Test.YtiklidgcmheofaaGreatDoorB5
import Derived.Test.YtiklidgcmheofaaGreatDoorB6
import Derived.Test.YtiklidgcmheofaaGreatDoorB7
import Derived.Test.YtiklidgcmheofaaGreatDoorB8
import Derived.Test.YtiklidgcmheofaaGreatDoorB9
import Derived.Test.YtiklidgcmheofaaGreatDoorB10
import Derived.Test.YtiklidgcmheofaaGreatDoorB11
import Derived.Test.YtiklidgcmheofaaGreatDoorB12
import Derived.Test.YtiklidgcmheofaaGreatDoorB13
import Derived.Test.YtiklidgcmheofaaGreatDoorB14
import Derived.Test.YtiklidgcmheofaaGreatDoorB15
import Derived.Test.YtiklidgcmheofaaGreatDoorB16
import Derived.Test.YtiklidgcmheofaaGreatDoorB17
import Derived.Test.YtiklidgcmheofaaGreatDoorB18
import Derived.Test.YtiklidgcmheofaaGreatDoorB19
import Derived.Test.YtiklidgcmheofaaGreatDoorB20
import Derived.Test.YtiklidgcmheofaaGreatDoorB21
import Derived.Test.YtiklidgcmheofaaGreatDoorB22
import Derived.Test.YtiklidgcmheofaaGreatDoorCards
import Derived.Lib.LaidTab
import Derived.OpenShut
import Derived.BigQuiet
namespace Go.Proofs.YtiklidgcmheofaaGreatDoor
open Go.RowKit Go.Maps
set_option maxHeartbeats 3200000
/-- A small flat program. -/
def SmallP (f : FlatD) : Prop := FlatOk f ∧ (1 ≤ f.R ∧ f.R ≤ 8) ∧ (1 ≤ f.arrays.length ∧ f.arrays.length ≤ 4) ∧ ∀ s ∈ f.arrays, s ≤ 8
section
variable {w : World}
set_option maxRecDepth 100000 in
theorem small_any (f : FlatD) (v1 v2 v3 v4 : Value) (hf : FlatOf w f v1 v2 v3 v4) (hT : ShpOk w) :
    Calls Tryz.prog 6 #[.agg #[.int .i64 f.W, .int .i64 f.R, v1, v2, v3, v4]] w fun e w' => ∃ B : Bool, e = .returned (.bool B) ∧ (B = true ↔ SmallP f) ∧ Below w.heap.size w w' := by
  obtain ⟨a3, na, c3, rfl, hl3, -⟩ := hf.arrays.parts
  have hb := (Lab.nil (Below.refl w.heap.size w)).alloc #[.int .i64 f.W, .int .i64 f.R, v1, v2, (.slice a3 na c3), v4] 26
  obtain ⟨q, hq⟩ : ∃ q, w.heap.size = q := ⟨_, rfl⟩
  have hck := fun (wx : World) (hbx : Below w.heap.size w wx) => rcheck25_any f v1 v2 (.slice a3 na c3) v4 (hf.later hbx) (hT.later hbx)
  obtain ⟨W, R, ch, st, ars, cs⟩ := f
  simp only at hb hck ⊢
  simp only at hl3
  obtain ⟨P, hP⟩ : ∃ P, SmallP ⟨W, R, ch, st, ars, cs⟩ = P := ⟨_, rfl⟩
  rw [hP]
  have HP : Hid (P = (FlatOk ⟨W, R, ch, st, ars, cs⟩ ∧ (1 ≤ R ∧ R ≤ 8) ∧ (1 ≤ na ∧ na ≤ 4) ∧ ∀ s ∈ ars, s ≤ 8)) := Lib.hid (by rw [← hP, ← hl3]; rfl)
  have HF := Lib.hid hf; have HB := Lib.hid hb; have HV := Lib.hid hl3
  clear hf hT hb hP
  have cells : ∀ wx, Lab w wx [Thing.box w.heap.size 26 #[.int .i64 W, .int .i64 R, v1, v2, (.slice a3 na c3), v4]] → wx.cell? ⟨q, 0, none⟩ = some (.int .i64 W) ∧ wx.cell? ⟨q, 1, none⟩ = some (.int .i64 R) ∧ wx.cell? ⟨q, 2, none⟩ = some v1 ∧ wx.cell? ⟨q, 3, none⟩ = some v2 ∧ wx.cell? ⟨q, 4, none⟩ = some (.slice a3 na c3) ∧ wx.cell? ⟨q, 5, none⟩ = some v4 := fun wx hx => by
    have r : wx.heap[w.heap.size]? = some (.cells #[.int .i64 W, .int .i64 R, v1, v2, (.slice a3 na c3), v4] 26 (0, 0)) := hx.head
    rw [hq] at r
    exact ⟨cell_of_cells r (i := 0) rfl, cell_of_cells r (i := 1) rfl, cell_of_cells r (i := 2) rfl, cell_of_cells r (i := 3) rfl, cell_of_cells r (i := 4) rfl, cell_of_cells r (i := 5) rfl⟩
  have HC := Lib.hid cells
  clear cells
  by_cases hp : FlatOk ⟨W, R, ch, st, ars, cs⟩
  · have hk : ∀ wx, Below w.heap.size w wx → Calls Tryz.prog 17 #[.agg #[.int .i64 W, .int .i64 R, v1, v2, (.slice a3 na c3), v4]] wx fun e w' => e = .returned (.int .i64 0) ∧ Below wx.heap.size wx w' := fun wx hbx => (hck wx hbx).mono (by
      rintro e w' ⟨qv, rfl, hq | hq, hbb⟩
      · rw [hq.2]; exact ⟨rfl, hbb⟩
      · exact absurd hp hq.1)
    have HK := Lib.hid hk; have HPP := Lib.hid hp
    clear hck hk hp
    by_cases h1 : R < 1
    · have g1 : decide (R < 1) = true := decide_eq_true h1
      have HN := Lib.hid (show ¬ (FlatOk ⟨W, R, ch, st, ars, cs⟩ ∧ (1 ≤ R ∧ R ≤ 8) ∧ (1 ≤ na ∧ na ≤ 4) ∧ ∀ s ∈ ars, s ≤ 8) from fun h => by have := h.2.1.1; omega)
      go_enter Tryz.func6, Tryz.ntmps6
      go_upto_region 1 with fail
      refine wp_abs (fun wx => Lab w wx [Thing.box w.heap.size 26 #[.int .i64 W, .int .i64 R, v1, v2, (.slice a3 na c3), v4]]) HB.out ?_
      intro w1 hl
      obtain ⟨q0, q1, q2, q3, q4, q5⟩ := HC.out w1 hl
      have hchk := HK.out w1 hl.below
      have HCK := Lib.hid hchk; have HL := Lib.hid hl
      clear hchk hl
      go_wp2_with fail
      go_at_call 17
      refine HCK.out.mono ?_
      rintro e w5 ⟨rfl, hb5⟩
      have hl5 := HL.out.later hb5
      clear q0 q1 q2 q3 q4 q5 HCK hb5
      obtain ⟨q0, q1, q2, q3, q4, q5⟩ := HC.out w5 hl5
      have HL5 := Lib.hid hl5
      clear hl5
      go_wp2
      go_ret
      exact ⟨false, rfl, ⟨fun h => (by cases h), fun h => by rw [HP.out] at h; exact absurd h HN.out⟩, HL5.out.below⟩
    · have g1 : decide (R < 1) = false := decide_eq_false h1
      by_cases h2 : 8 < R
      · have g2 : decide (8 < R) = true := decide_eq_true h2
        have HN := Lib.hid (show ¬ (FlatOk ⟨W, R, ch, st, ars, cs⟩ ∧ (1 ≤ R ∧ R ≤ 8) ∧ (1 ≤ na ∧ na ≤ 4) ∧ ∀ s ∈ ars, s ≤ 8) from fun h => by have := h.2.1.2; omega)
        go_enter Tryz.func6, Tryz.ntmps6
        go_upto_region 1 with fail
        refine wp_abs (fun wx => Lab w wx [Thing.box w.heap.size 26 #[.int .i64 W, .int .i64 R, v1, v2, (.slice a3 na c3), v4]]) HB.out ?_
        intro w1 hl
        obtain ⟨q0, q1, q2, q3, q4, q5⟩ := HC.out w1 hl
        have hchk := HK.out w1 hl.below
        have HCK := Lib.hid hchk; have HL := Lib.hid hl
        clear hchk hl
        go_wp2_with fail
        go_at_call 17
        refine HCK.out.mono ?_
        rintro e w5 ⟨rfl, hb5⟩
        have hl5 := HL.out.later hb5
        clear q0 q1 q2 q3 q4 q5 HCK hb5
        obtain ⟨q0, q1, q2, q3, q4, q5⟩ := HC.out w5 hl5
        have HL5 := Lib.hid hl5
        clear hl5
        go_wp2
        go_ret
        exact ⟨false, rfl, ⟨fun h => (by cases h), fun h => by rw [HP.out] at h; exact absurd h HN.out⟩, HL5.out.below⟩
      · have g2 : decide (8 < R) = false := decide_eq_false h2
        by_cases h3 : na < 1
        · have g3 : decide ((na : Int) < 1) = true := decide_eq_true (by omega)
          have HN := Lib.hid (show ¬ (FlatOk ⟨W, R, ch, st, ars, cs⟩ ∧ (1 ≤ R ∧ R ≤ 8) ∧ (1 ≤ na ∧ na ≤ 4) ∧ ∀ s ∈ ars, s ≤ 8) from fun h => by have := h.2.2.1.1; omega)
          go_enter Tryz.func6, Tryz.ntmps6
          go_upto_region 1 with fail
          refine wp_abs (fun wx => Lab w wx [Thing.box w.heap.size 26 #[.int .i64 W, .int .i64 R, v1, v2, (.slice a3 na c3), v4]]) HB.out ?_
          intro w1 hl
          obtain ⟨q0, q1, q2, q3, q4, q5⟩ := HC.out w1 hl
          have hchk := HK.out w1 hl.below
          have HCK := Lib.hid hchk; have HL := Lib.hid hl
          clear hchk hl
          go_wp2_with fail
          go_at_call 17
          refine HCK.out.mono ?_
          rintro e w5 ⟨rfl, hb5⟩
          have hl5 := HL.out.later hb5
          clear q0 q1 q2 q3 q4 q5 HCK hb5
          obtain ⟨q0, q1, q2, q3, q4, q5⟩ := HC.out w5 hl5
          have HL5 := Lib.hid hl5
          clear hl5
          go_wp2
          go_ret
          exact ⟨false, rfl, ⟨fun h => (by cases h), fun h => by rw [HP.out] at h; exact absurd h HN.out⟩, HL5.out.below⟩
        · have g3 : decide ((na : Int) < 1) = false := decide_eq_false (by omega)
          by_cases h4 : 4 < na
          · have g4 : decide (4 < (na : Int)) = true := decide_eq_true (by omega)
            have HN := Lib.hid (show ¬ (FlatOk ⟨W, R, ch, st, ars, cs⟩ ∧ (1 ≤ R ∧ R ≤ 8) ∧ (1 ≤ na ∧ na ≤ 4) ∧ ∀ s ∈ ars, s ≤ 8) from fun h => by have := h.2.2.1.2; omega)
            go_enter Tryz.func6, Tryz.ntmps6
            go_upto_region 1 with fail
            refine wp_abs (fun wx => Lab w wx [Thing.box w.heap.size 26 #[.int .i64 W, .int .i64 R, v1, v2, (.slice a3 na c3), v4]]) HB.out ?_
            intro w1 hl
            obtain ⟨q0, q1, q2, q3, q4, q5⟩ := HC.out w1 hl
            have hchk := HK.out w1 hl.below
            have HCK := Lib.hid hchk; have HL := Lib.hid hl
            clear hchk hl
            go_wp2_with fail
            go_at_call 17
            refine HCK.out.mono ?_
            rintro e w5 ⟨rfl, hb5⟩
            have hl5 := HL.out.later hb5
            clear q0 q1 q2 q3 q4 q5 HCK hb5
            obtain ⟨q0, q1, q2, q3, q4, q5⟩ := HC.out w5 hl5
            have HL5 := Lib.hid hl5
            clear hl5
            go_wp2
            go_ret
            exact ⟨false, rfl, ⟨fun h => (by cases h), fun h => by rw [HP.out] at h; exact absurd h HN.out⟩, HL5.out.below⟩
          · have g4 : decide (4 < (na : Int)) = false := decide_eq_false (by omega)
            have hn4 : na ≤ 4 := by omega
            go_enter Tryz.func6, Tryz.ntmps6
            go_upto_region 1 with fail
            refine wp_abs (fun wx => Lab w wx [Thing.box w.heap.size 26 #[.int .i64 W, .int .i64 R, v1, v2, (.slice a3 na c3), v4]]) HB.out ?_
            intro w1 hl
            obtain ⟨q0, q1, q2, q3, q4, q5⟩ := HC.out w1 hl
            have hchk := HK.out w1 hl.below
            have HCK := Lib.hid hchk; have HL := Lib.hid hl
            clear hchk hl
            go_wp2_with fail
            go_at_call 17
            refine HCK.out.mono ?_
            rintro e w5 ⟨rfl, hb5⟩
            have hl5 := HL.out.later hb5
            clear q0 q1 q2 q3 q4 q5 HCK hb5
            obtain ⟨q0, q1, q2, q3, q4, q5⟩ := HC.out w5 hl5
            have HL5 := Lib.hid hl5
            clear hl5
            go_wp2
            clear q0 q1 q2 q3 q4 q5
            go_loopw [3] (fun v wx => ∃ i : Nat, i ≤ na ∧ v = .int .i64 i ∧ (∀ j, j < i → ars.getD j 0 ≤ 8) ∧ Lab w wx [Thing.box w.heap.size 26 #[.int .i64 W, .int .i64 R, v1, v2, (.slice a3 na c3), v4]]) (fun v _ => na - (intOf v).toNat)
            case atStart => exact ⟨0, Nat.zero_le _, rfl, fun j hj => by omega, HL5.out⟩
            case round =>
              clear HL5
              obtain ⟨i, hi, rfl, hall, hl⟩ := hrel
              obtain ⟨-, -, -, -, q4, -⟩ := HC.out _ hl
              by_cases hlt : i < na
              · have hlt' : (i : Int) < (na : Int) := by omega
                have i0 : (0 : Int) ≤ (i : Int) := by omega
                obtain ⟨a', n', c', e3, hl3', hcx⟩ := (HF.out.later hl.below).arrays
                simp only [Value.slice.injEq] at e3
                obtain ⟨rfl, rfl, rfl⟩ := e3
                obtain ⟨b3, off3, rfl, hci⟩ := hcx i hlt
                obtain ⟨x, hx⟩ : ∃ x, ars.getD i 0 = x := ⟨_, rfl⟩
                rw [hx] at hci
                have HL := Lib.hid hl; have HX := Lib.hid (And.intro hx hall)
                have hmem : Hid (x ∈ ars) := Lib.hid (by rw [← hx, List.getD_eq_getElem?_getD, List.getElem?_eq_getElem (by omega)]; exact List.getElem_mem _)
                clear hl hcx hall hl3' hx
                by_cases hx8 : 8 < x
                · have g5 : decide (8 < x) = true := decide_eq_true hx8
                  have HN := Lib.hid (show ¬ (FlatOk ⟨W, R, ch, st, ars, cs⟩ ∧ (1 ≤ R ∧ R ≤ 8) ∧ (1 ≤ na ∧ na ≤ 4) ∧ ∀ s ∈ ars, s ≤ 8) from fun h => by have := h.2.2.2 x hmem.out; omega)
                  clear hx8
                  go_wp2
                  go_ret
                  exact ⟨false, rfl, ⟨fun h => (by cases h), fun h => by rw [HP.out] at h; exact absurd h HN.out⟩, HL.out.below⟩
                · have g5 : decide (8 < x) = false := decide_eq_false hx8
                  have HX8 := Lib.hid hx8
                  clear hx8
                  go_wp2
                  go_roundw
                  case rel => exact ⟨i + 1, by omega, by go_num, fun j hj => by
                    by_cases e : j = i
                    · subst e; rw [HX.out.1]; have := HX8.out; omega
                    · exact HX.out.2 j (by omega), HL.out⟩
                  case measure => simp [intOf]; omega
              · obtain rfl : i = na := by omega
                have HL := Lib.hid hl; have HALL := Lib.hid hall
                have HG := Lib.hid (And.intro (And.intro g1 g2) (And.intro (And.intro h1 h2) (And.intro h3 h4)))
                clear hl hall
                go_wp2
                go_ret
                refine ⟨true, rfl, ⟨fun _ => ?_, fun _ => rfl⟩, HL.out.below⟩
                rw [HP.out]
                refine ⟨HPP.out, ⟨by omega, by omega⟩, ⟨by omega, by omega⟩, fun s hs => ?_⟩
                obtain ⟨j, hj, rfl⟩ := List.getElem_of_mem hs
                have := HALL.out j (by have := HV.out; omega)
                rwa [List.getD_eq_getElem?_getD, List.getElem?_eq_getElem hj] at this
  · have hk : ∀ wx, Below w.heap.size w wx → Calls Tryz.prog 17 #[.agg #[.int .i64 W, .int .i64 R, v1, v2, (.slice a3 na c3), v4]] wx fun e w' => e = .returned (.int .i64 2) ∧ Below wx.heap.size wx w' := fun wx hbx => (hck wx hbx).mono (by
      rintro e w' ⟨qv, rfl, hq | hq, hbb⟩
      · exact absurd hq.1 hp
      · rw [hq.2]; exact ⟨rfl, hbb⟩)
    have HK := Lib.hid hk
    have HN := Lib.hid (show ¬ (FlatOk ⟨W, R, ch, st, ars, cs⟩ ∧ (1 ≤ R ∧ R ≤ 8) ∧ (1 ≤ na ∧ na ≤ 4) ∧ ∀ s ∈ ars, s ≤ 8) from fun h => hp h.1)
    clear hck hk hp
    go_enter Tryz.func6, Tryz.ntmps6
    go_upto_region 1 with fail
    refine wp_abs (fun wx => Lab w wx [Thing.box w.heap.size 26 #[.int .i64 W, .int .i64 R, v1, v2, (.slice a3 na c3), v4]]) HB.out ?_
    intro w1 hl
    obtain ⟨q0, q1, q2, q3, q4, q5⟩ := HC.out w1 hl
    have hchk := HK.out w1 hl.below
    have HCK := Lib.hid hchk; have HL := Lib.hid hl
    clear hchk hl
    go_wp2_with fail
    go_at_call 17
    refine HCK.out.mono ?_
    rintro e w5 ⟨rfl, hb5⟩
    have hl5 := HL.out.later hb5
    clear q0 q1 q2 q3 q4 q5 HCK hb5
    obtain ⟨q0, q1, q2, q3, q4, q5⟩ := HC.out w5 hl5
    have HL5 := Lib.hid hl5
    clear hl5
    go_wp2
    go_ret
    exact ⟨false, rfl, ⟨fun h => (by cases h), fun h => by rw [HP.out] at h; exact absurd h HN.out⟩, HL5.out.below⟩
end
end Go.Proofs.YtiklidgcmheofaaGreatDoor
namespace Go.Proofs.YtiklidgcmheofaaGreatDoor
open Go.RowKit Go.Maps
set_option maxHeartbeats 3200000
theorem bothIn_of {w : World} {W nR : Nat} {ch st : List ByteArray} {ars : List Int} {cs : List CodeD} {v1 v2 v3 v4 vv : Value} {vals : List Int} (hf : FlatOf w ⟨W, nR, ch, st, ars, cs⟩ v1 v2 v3 v4) (hS : SmallP ⟨W, nR, ch, st, ars, cs⟩) (hv : SliceOf w .u64 vv vals) (hvu : U64s vals) (hn : vals.length ≤ 8) : BothIn w W nR ars vals v3 vv := by
  obtain ⟨h1, h2, h3, h4⟩ := hS
  simp only at h2 h3 h4
  exact ⟨hf.arrays, hv, hn, hvu, by omega, by omega, h3.1, h3.2, fun s hs => ⟨(h1.arrays s hs).1, h4 s hs⟩⟩
section
variable {w : World}
set_option maxRecDepth 100000 in
theorem storeActs_walk (f : FlatD) (v1 v2 v3 v4 vv va : Value) (hf : FlatOf w f v1 v2 v3 v4) (hT : ShpOk w) (vals : List Int) (hv : SliceOf w .u64 vv vals) (hvu : U64s vals) (a0 : List ActD) (ha0 : ActsOf w va a0) :
    Calls Tryz.prog 3 #[.agg #[.int .i64 f.W, .int .i64 f.R, v1, v2, v3, v4], vv, va] w fun e w' => e = .returned (.bool true) ∧ Below w.heap.size w w' := by
  obtain ⟨av, nv, cv, rfl, hnv, -⟩ := hv.parts
  obtain ⟨aa0, na0, ca0, rfl, hna0, -, hacts0⟩ := ha0
  have hb0 := (Lab.nil (Below.refl w.heap.size w)).alloc #[.int .i64 f.W, .int .i64 f.R, v1, v2, v3, v4] 26
  have cells : ∀ (wx : World) (us : List Thing), Lab w wx us → Thing.box w.heap.size 26 #[.int .i64 f.W, .int .i64 f.R, v1, v2, v3, v4] ∈ us → wx.cell? ⟨w.heap.size, 0, none⟩ = some (.int .i64 f.W) ∧ wx.cell? ⟨w.heap.size, 1, none⟩ = some (.int .i64 f.R) ∧ wx.cell? ⟨w.heap.size, 2, none⟩ = some v1 ∧ wx.cell? ⟨w.heap.size, 3, none⟩ = some v2 ∧ wx.cell? ⟨w.heap.size, 4, none⟩ = some v3 ∧ wx.cell? ⟨w.heap.size, 5, none⟩ = some v4 := fun wx us hx hm => by
    have r : wx.heap[w.heap.size]? = some (.cells #[.int .i64 f.W, .int .i64 f.R, v1, v2, v3, v4] 26 (0, 0)) := hx.holds _ hm
    exact ⟨cell_of_cells r (i := 0) rfl, cell_of_cells r (i := 1) rfl, cell_of_cells r (i := 2) rfl, cell_of_cells r (i := 3) rfl, cell_of_cells r (i := 4) rfl, cell_of_cells r (i := 5) rfl⟩
  obtain ⟨q, hq⟩ : ∃ q, w.heap.size = q := ⟨_, rfl⟩
  rw [hq] at hb0 cells
  have hsml : ∀ wx, Lab w wx [Thing.box q 26 #[.int .i64 f.W, .int .i64 f.R, v1, v2, v3, v4]] → Calls Tryz.prog 6 #[.agg #[.int .i64 f.W, .int .i64 f.R, v1, v2, v3, v4]] wx fun e w' => ∃ B : Bool, e = .returned (.bool B) ∧ (B = true ↔ SmallP f) ∧ Below wx.heap.size wx w' := fun wx hx => small_any f v1 v2 v3 v4 (hf.later hx.below) (hT.later hx.below)
  have HB := Lib.hid hb0; have HC := Lib.hid cells; have HF := Lib.hid (And.intro hf (And.intro hT (And.intro hv (And.intro hvu hnv)))); have HSL := Lib.hid hsml
  have HA0 := Lib.hid (And.intro hna0 hacts0)
  clear hb0 cells hf hT hsml hv hvu hnv hna0 hacts0
  by_cases hS : SmallP f
  · by_cases hc0 : 8 < nv
    · have HS := Lib.hid hS
      have gc0 : decide (8 < (nv : Int)) = true := decide_eq_true (by omega)
      clear hS
      go_enter Tryz.func3, Tryz.ntmps3
      go_upto_region 1 with fail
      refine wp_abs (fun wx => Lab w wx [Thing.box q 26 #[.int .i64 f.W, .int .i64 f.R, v1, v2, v3, v4]]) HB.out ?_
      intro w1 hl1
      obtain ⟨q0, q1, q2, q3, q4, q5⟩ := HC.out _ _ hl1 (by simp)
      have HSM := Lib.hid (HSL.out w1 hl1); have HL1 := Lib.hid hl1
      clear hl1 HB hq
      go_wp2_with fail
      go_at_call 6
      refine HSM.out.mono ?_
      rintro e w2 ⟨B, rfl, hB, hb2⟩
      obtain rfl : B = true := hB.2 HS.out
      have hl2 := HL1.out.later hb2
      clear q0 q1 q2 q3 q4 q5 HSM HL1 hb2 hB
      obtain ⟨q0, q1, q2, q3, q4, q5⟩ := HC.out _ _ hl2 (by simp)
      have HL := Lib.hid hl2
      clear hl2
      go_wp2_with fail
      go_at_call 7
      refine (awake30_any (HF.out.2.1.later HL.out.below)).mono ?_
      rintro e w6 ⟨rfl, hb6⟩
      have HB6 := Lib.hid hb6
      clear hb6
      go_wp2
      go_ret
      exact ⟨rfl, HL.out.below.trans (HB6.out.mono HL.out.below.size)⟩
    · have gc0 : decide (8 < (nv : Int)) = false := decide_eq_false (by omega)
      by_cases hc1 : 20 < na0
      · have HS := Lib.hid hS
        have gc1 : decide (20 < (na0 : Int)) = true := decide_eq_true (by omega)
        clear hS
        go_enter Tryz.func3, Tryz.ntmps3
        go_upto_region 1 with fail
        refine wp_abs (fun wx => Lab w wx [Thing.box q 26 #[.int .i64 f.W, .int .i64 f.R, v1, v2, v3, v4]]) HB.out ?_
        intro w1 hl1
        obtain ⟨q0, q1, q2, q3, q4, q5⟩ := HC.out _ _ hl1 (by simp)
        have HSM := Lib.hid (HSL.out w1 hl1); have HL1 := Lib.hid hl1
        clear hl1 HB hq
        go_wp2_with fail
        go_at_call 6
        refine HSM.out.mono ?_
        rintro e w2 ⟨B, rfl, hB, hb2⟩
        obtain rfl : B = true := hB.2 HS.out
        have hl2 := HL1.out.later hb2
        clear q0 q1 q2 q3 q4 q5 HSM HL1 hb2 hB
        obtain ⟨q0, q1, q2, q3, q4, q5⟩ := HC.out _ _ hl2 (by simp)
        have HL := Lib.hid hl2
        clear hl2
        go_wp2_with fail
        go_at_call 7
        refine (awake30_any (HF.out.2.1.later HL.out.below)).mono ?_
        rintro e w6 ⟨rfl, hb6⟩
        have HB6 := Lib.hid hb6
        clear hb6
        go_wp2
        go_ret
        exact ⟨rfl, HL.out.below.trans (HB6.out.mono HL.out.below.size)⟩
      · have gc1 : decide (20 < (na0 : Int)) = false := decide_eq_false (by omega)
        have HS := Lib.hid hS
        obtain ⟨W', R', ch, st, ars, cs⟩ := f
        simp only at HB HC HF HSL ⊢
        obtain ⟨W, rfl⟩ : ∃ W : Nat, W' = (W : Int) := ⟨W'.toNat, by have := hS.1.W; simp only at this; omega⟩
        obtain ⟨nR, rfl⟩ : ∃ n : Nat, R' = (n : Int) := ⟨R'.toNat, by have := hS.1.R; simp only at this; omega⟩
        have HI := Lib.hid (bothIn_of HF.out.1 hS HF.out.2.2.1 HF.out.2.2.2.1 (by rw [HF.out.2.2.2.2]; omega))
        clear hS
        go_enter Tryz.func3, Tryz.ntmps3
        go_upto_region 1 with fail
        refine wp_abs (fun wx => Lab w wx [Thing.box q 26 #[.int .i64 W, .int .i64 nR, v1, v2, v3, v4]]) HB.out ?_
        intro w1 hl1
        obtain ⟨q0, q1, q2, q3, q4, q5⟩ := HC.out _ _ hl1 (by simp)
        have HSM := Lib.hid (HSL.out w1 hl1); have HL1 := Lib.hid hl1
        clear hl1 HB hq
        go_wp2_with fail
        go_at_call 6
        refine HSM.out.mono ?_
        rintro e w2 ⟨B, rfl, hB, hb2⟩
        obtain rfl : B = true := hB.2 HS.out
        have hl2 := HL1.out.later hb2
        clear q0 q1 q2 q3 q4 q5 HSM HL1 hb2 hB
        obtain ⟨q0, q1, q2, q3, q4, q5⟩ := HC.out _ _ hl2 (by simp)
        have hbg := Lab.bbegin (vals := vals) HF.out.1 HF.out.2.1 HS.out.1 (vv := .slice av nv cv) ⟨_, _, _, rfl⟩ hl2
        have HBG := Lib.hid hbg
        clear hbg hl2
        go_wp2_with fail
        go_at_call 8
        refine HBG.out.mono ?_
        rintro e w3 ⟨bb, gb, sb, rb, zt, y, z, L, F, I, rfl, hB, hyl, hzl, hl3⟩
        have hbo := hB.both (vals := vals) (nR := nR) (fun s hs => HS.out.1.arrays s hs)
        have hsame := Lab.bsame HI.out hbo (by rw [zerosL_len, hyl]) (by rw [zerosL_len, hzl]) (by have := hB.phi; omega) hl3
        have HSA := Lib.hid hsame; have HBO := Lib.hid (And.intro hbo (And.intro hB.phi (And.intro hyl hzl)))
        clear hsame hbo hB hyl hzl hl3 HBG q0 q1 q2 q3 q4 q5
        go_wp2_with fail
        go_at_call 9
        refine HSA.out.mono ?_
        rintro e w4 ⟨L1, F1, I1, rfl, hp1, hok1, hph1, hl4⟩
        have HL4 := Lib.hid (And.intro hp1 (And.intro hok1 (And.intro hph1 hl4)))
        clear hp1 hok1 hph1 hl4 HSA
        go_wp2
        go_loopw [8] (fun v wx => ∃ i : Nat, i ≤ na0 ∧ v = .int .i64 i ∧ ∃ (F I : List Nat) (L : List PNode) (y : Lay) (regs rregs : List Int) (arrs rarrs : List (List Int)), BothOk W vals nR ars L regs rregs arrs rarrs ∧ phi W L ≤ 65 + 20 * i ∧ arrs.length = y.vs.length ∧ rarrs.length = z.vs.length ∧ Lab w wx (bothTs F I gb W 20000 L bb sb rb nR y z regs rregs arrs rarrs v1 v2 v3 v4 (.slice av nv cv) [Thing.box q 26 #[.int .i64 W, .int .i64 nR, v1, v2, v3, v4]])) (fun v _ => na0 - (intOf v).toNat)
        case atStart => exact ⟨0, Nat.zero_le _, rfl, F1, I1, L1, y, _, _, _, _, ⟨HL4.out.2.1, HBO.out.1.regs.keep HL4.out.1, HBO.out.1.nregs, HBO.out.1.arrs.keep HL4.out.1⟩, by have := HL4.out.2.2.1; have := HBO.out.2.1; omega, by rw [zerosL_len, HBO.out.2.2.1], by rw [zerosL_len, HBO.out.2.2.2], HL4.out.2.2.2⟩
        case round =>
          clear HL4
          obtain ⟨i, hi, rfl, F2, I2, L2, y2, regs, rregs, arrs, rarrs, hbo, hph, hy, hz, hl⟩ := hrel
          by_cases hlt : i < na0
          · have hlt' : (i : Int) < (na0 : Int) := by omega
            have i0 : (0 : Int) ≤ (i : Int) := by omega
            obtain ⟨b, off, x, rfl, hx, hxo, k0, k1, k2, k3, k4, k5⟩ := HA0.out.2 i hlt
            have c0 := cell_later hl.below k0; have c1 := cell_later hl.below k1; have c2 := cell_later hl.below k2; have c3 := cell_later hl.below k3; have c4 := cell_later hl.below k4; have c5 := cell_later hl.below k5
            have hd := Lab.does HI.out hbo hy hz (by omega) x hxo hl
            unfold ActD.val at hd
            have HD := Lib.hid (And.intro hd hph)
            clear hbo hph hy hz hl k0 k1 k2 k3 k4 k5 hx hxo hd
            go_wp2_with fail
            go_at_call 10
            refine HD.out.1.mono ?_
            rintro e w5 ⟨L', F', I', y', regs', rregs', arrs', rarrs', rfl, hp, hbo', hph', hy', hz', hl'⟩
            have HL' := Lib.hid (And.intro hbo' (And.intro (show phi W L' ≤ 65 + 20 * (i + 1) by have := HD.out.2; omega) (And.intro hy' (And.intro hz' hl'))))
            clear hp hbo' hph' hy' hz' hl' c0 c1 c2 c3 c4 c5 HD
            go_wp2
            go_roundw
            case rel => exact ⟨i + 1, by omega, by go_num, F', I', L', y', regs', rregs', arrs', rarrs', HL'.out.1, HL'.out.2.1, HL'.out.2.2.1, HL'.out.2.2.2.1, HL'.out.2.2.2.2⟩
            case measure => simp [intOf]; omega
          · obtain rfl : i = na0 := by omega
            have HLS := Lib.hid (And.intro hbo (And.intro hph (And.intro hy hz)))
            clear hbo hph hy hz
            have HL := Lib.hid hl
            clear HLS
            go_wp2_with fail
            go_at_call 7
            refine (awake30_any (HF.out.2.1.later HL.out.below)).mono ?_
            rintro e w6 ⟨rfl, hb6⟩
            have HB6 := Lib.hid hb6
            clear hb6
            go_wp2
            go_ret
            exact ⟨rfl, HL.out.below.trans (HB6.out.mono HL.out.below.size)⟩
  · have HS := Lib.hid hS
    clear hS
    go_enter Tryz.func3, Tryz.ntmps3
    go_upto_region 1 with fail
    refine wp_abs (fun wx => Lab w wx [Thing.box q 26 #[.int .i64 f.W, .int .i64 f.R, v1, v2, v3, v4]]) HB.out ?_
    intro w1 hl1
    obtain ⟨q0, q1, q2, q3, q4, q5⟩ := HC.out _ _ hl1 (by simp)
    have HSM := Lib.hid (HSL.out w1 hl1); have HL1 := Lib.hid hl1
    clear hl1 HB hq
    go_wp2_with fail
    go_at_call 6
    refine HSM.out.mono ?_
    rintro e w2 ⟨B, rfl, hB, hb2⟩
    obtain rfl : B = false := by
      cases B
      · rfl
      · exact absurd (hB.1 rfl) HS.out
    have hl2 := HL1.out.later hb2
    clear q0 q1 q2 q3 q4 q5 HSM HL1 hb2 hB
    obtain ⟨q0, q1, q2, q3, q4, q5⟩ := HC.out _ _ hl2 (by simp)
    have HL := Lib.hid hl2
    clear hl2
    go_wp2_with fail
    go_at_call 7
    refine (awake30_any (HF.out.2.1.later HL.out.below)).mono ?_
    rintro e w6 ⟨rfl, hb6⟩
    have HB6 := Lib.hid hb6
    clear hb6
    go_wp2
    go_ret
    exact ⟨rfl, HL.out.below.trans (HB6.out.mono HL.out.below.size)⟩
end
end Go.Proofs.YtiklidgcmheofaaGreatDoor
namespace Go.Proofs.YtiklidgcmheofaaGreatDoor
open Go.RowKit Go.Maps
set_option maxHeartbeats 3200000
theorem list4' {α : Type} (cs : List α) (h : cs.length = 4) : ∃ c0 c1 c2 c3, cs = [c0, c1, c2, c3] := by
  match cs, h with
  | [c0, c1, c2, c3], _ => exact ⟨_, _, _, _, rfl⟩
theorem shape_of_cells {H : Type} {enc : TypeId × Value → H} {w : World} {base fu : Nat} {sp : Nat → Bool} {held : Bool} {cs : List Value} {b0 b1 b2 : Bool} {n : Int} {pl : List MemPlace}
    (h : DataW.trod enc Tryz.prog w base sp held fu 133 cs = some (.agg [.lit (.bool b0), .lit (.bool b1), .lit (.bool b2), .lit (.int .i64 n)], pl)) : cs = [.bool b0, .bool b1, .bool b2, .int .i64 n] := by
  obtain ⟨ys, m, _, hx, hl, hyl, hf⟩ := DataW.trod_struct Tryz.underlying133 h
  have h4 : Tryz.prog.cellsOf 133 = 4 := by kernel_rfl
  have hcl : cs.length = 4 := hl.trans h4
  obtain ⟨c0, c1, c2, c3, rfl⟩ := list4' cs hcl
  have hys : ys.map (·.1) = [DataW.lit (.bool b0), .lit (.bool b1), .lit (.bool b2), .lit (.int .i64 n)] := by
    have := congrArg Prod.fst hx
    simp only [DataW.agg.injEq] at this
    exact this.symm
  obtain ⟨y0, y1, y2, y3, rfl⟩ := list4' ys hyl
  simp only [List.map_cons, List.map_nil, List.cons.injEq, and_true] at hys
  obtain ⟨z0, z1, z2, z3⟩ := hys
  have q0 : Tryz.prog.cellsOf 4 = 1 := by kernel_rfl
  have q1 : Tryz.prog.cellsOf 3 = 1 := by kernel_rfl
  have g0 := hf 0 _ rfl
  replace g0 : DataW.trod enc Tryz.prog w base sp held m 4 (([c0, c1, c2, c3].drop 0).take (Tryz.prog.cellsOf 4)) = some y0 := g0
  rw [q0] at g0
  have g1 := hf 1 _ rfl
  replace g1 : DataW.trod enc Tryz.prog w base sp held m 4 (([c0, c1, c2, c3].drop 1).take (Tryz.prog.cellsOf 4)) = some y1 := g1
  rw [q0] at g1
  have g2 := hf 2 _ rfl
  replace g2 : DataW.trod enc Tryz.prog w base sp held m 4 (([c0, c1, c2, c3].drop 2).take (Tryz.prog.cellsOf 4)) = some y2 := g2
  rw [q0] at g2
  have g3 := hf 3 _ rfl
  replace g3 : DataW.trod enc Tryz.prog w base sp held m 3 (([c0, c1, c2, c3].drop 3).take (Tryz.prog.cellsOf 3)) = some y3 := g3
  rw [q1] at g3
  obtain ⟨x0, e0, r0⟩ := DataW.trod_bool Tryz.underlying4 g0
  obtain ⟨x1, e1, r1⟩ := DataW.trod_bool Tryz.underlying4 g1
  obtain ⟨x2, e2, r2⟩ := DataW.trod_bool Tryz.underlying4 g2
  obtain ⟨x3, e3, r3, -⟩ := DataW.trod_int Tryz.underlying3 g3
  subst r0 r1 r2 r3
  simp only [DataW.lit.injEq, Lit.bool.injEq, Lit.int.injEq, true_and] at z0 z1 z2 z3
  subst z0 z1 z2 z3
  simp only [List.drop_zero, List.drop_succ_cons, List.take_succ_cons, List.take_zero, List.cons.injEq, and_true] at e0 e1 e2 e3
  rw [e0, e1, e2, e3]
theorem gShp : Tryz.prog.globalNamed "weephole/flat.shapes" = some 0 := by kernel_rfl
theorem gShpType : (Tryz.prog.globals[0]?).map (·.type) = some 134 := by kernel_rfl
set_option maxRecDepth 100000 in
theorem shp_of_laid {W : World} (h : laidMet Tryz.prog [("weephole/flat.shapes", Rows.laid_weephole_flat_shapes)] W) : ShpOk W := by
  obtain ⟨ps, ⟨g', t', cs, fuel, p, q, hg', ht', hvar, hd, _, _⟩, _⟩ := h
  obtain rfl := Option.some.inj (gShp.symm.trans hg')
  obtain rfl := Option.some.inj (gShpType.symm.trans ht')
  obtain ⟨xs, m, _, hx, hcl, hxl, hf⟩ := DataW.trod_array Tryz.underlying134 hd
  have h4 : Tryz.prog.cellsOf 133 = 4 := by kernel_rfl
  rw [h4] at hf
  have hxs : DataW.agg (xs.map (·.1)) = Rows.laid_weephole_flat_shapes := by
    have := congrArg Prod.fst hx
    exact this.symm
  have at_ : ∀ (i : Nat) (b0 b1 b2 : Bool) (n : Int), i < 10 → (xs.map (·.1))[i]? = some (.agg [.lit (.bool b0), .lit (.bool b1), .lit (.bool b2), .lit (.int .i64 n)]) →
      W.cell? ⟨0, i * 4, none⟩ = some (.bool b0) ∧ W.cell? ⟨0, i * 4 + 1, none⟩ = some (.bool b1) ∧ W.cell? ⟨0, i * 4 + 2, none⟩ = some (.bool b2) ∧ W.cell? ⟨0, i * 4 + 3, none⟩ = some (.int .i64 n) := by
    intro i b0 b1 b2 n hi he
    rw [List.getElem?_map, Option.map_eq_some_iff] at he
    obtain ⟨⟨d, pl⟩, hxi, hd2⟩ := he
    simp only at hd2
    subst hd2
    have h1 := hf i hi
    rw [hxi] at h1
    have h2 := shape_of_cells h1
    have cell : ∀ j u, j < 4 → [Value.bool b0, .bool b1, .bool b2, .int .i64 n][j]? = some u → W.cell? ⟨0, i * 4 + j, none⟩ = some u := fun j u hj hu => by
      rw [← h2, List.getElem?_take, if_pos hj, List.getElem?_drop] at hu
      have := World.var?_cell gShp hvar (i * 4 + j)
      rw [this]
      simpa using hu
    exact ⟨cell 0 _ (by decide) rfl, cell 1 _ (by decide) rfl, cell 2 _ (by decide) rfl, cell 3 _ (by decide) rfl⟩
  unfold Rows.laid_weephole_flat_shapes at hxs
  simp only [DataW.agg.injEq] at hxs
  rw [hxs] at at_
  intro k hk
  have hk2 : k = 0 ∨ k = 1 ∨ k = 2 ∨ k = 3 ∨ k = 4 ∨ k = 5 ∨ k = 6 ∨ k = 7 ∨ k = 8 ∨ k = 9 := by omega
  rcases hk2 with rfl | rfl | rfl | rfl | rfl | rfl | rfl | rfl | rfl | rfl
  · exact at_ 0 _ _ _ _ (by decide) rfl
  · exact at_ 1 _ _ _ _ (by decide) rfl
  · exact at_ 2 _ _ _ _ (by decide) rfl
  · exact at_ 3 _ _ _ _ (by decide) rfl
  · exact at_ 4 _ _ _ _ (by decide) rfl
  · exact at_ 5 _ _ _ _ (by decide) rfl
  · exact at_ 6 _ _ _ _ (by decide) rfl
  · exact at_ 7 _ _ _ _ (by decide) rfl
  · exact at_ 8 _ _ _ _ (by decide) rfl
  · exact at_ 9 _ _ _ _ (by decide) rfl
end Go.Proofs.YtiklidgcmheofaaGreatDoor
