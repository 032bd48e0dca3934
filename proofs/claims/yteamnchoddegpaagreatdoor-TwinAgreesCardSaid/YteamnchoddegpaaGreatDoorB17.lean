/- LatD, LatE: joined by wip/bundle.py. -/
import Derived.Test.YteamnchoddegpaaGreatDoorB1
import Derived.Test.YteamnchoddegpaaGreatDoorB2
import Derived.Test.YteamnchoddegpaaGreatDoorB3
import Derived.Test.YteamnchoddegpaaGreatDoorB4
import Derived.Test.YteamnchoddegpaaGreatDoorB5
import Derived.Test.YteamnchoddegpaaGreatDoorB6
import Derived.Test.YteamnchoddegpaaGreatDoorB7
import Derived.Test.YteamnchoddegpaaGreatDoorB8
import Derived.Test.YteamnchoddegpaaGreatDoorB9
import Derived.Test.YteamnchoddegpaaGreatDoorB10
import Derived.Test.YteamnchoddegpaaGreatDoorB11
import Derived.Test.YteamnchoddegpaaGreatDoorB12
import Derived.Test.YteamnchoddegpaaGreatDoorB13
import Derived.Test.YteamnchoddegpaaGreatDoorB14
import Derived.Test.YteamnchoddegpaaGreatDoorB15
import Derived.Test.YteamnchoddegpaaGreatDoorB16
import Derived.BigQuiet
namespace Go.Proofs.YteamnchoddegpaaGreatDoor
open Go.RowKit Go.Maps
set_option maxHeartbeats 6400000
def zeroN : Nat → Nat := fun _ => 0
section
variable {w0 wr w' : World} {ts : List Thing}
theorem Lab.new_lat (h : Lab w0 wr ts) (n : Nat) : Lab w0 (wr.alloc (.cells (Value.int .i64 n :: List.replicate 64 (Value.int .u32 0)).toArray 107)) (Thing.fn wr.heap.size 107 65 (latF n zeroN zeroN) :: ts) := by
  refine h.make (n := 65) _ _ _ (by simp) fun i hi => ?_
  rcases Nat.eq_zero_or_pos i with rfl | h0
  · rfl
  · obtain ⟨j, rfl⟩ : ∃ j, i = j + 1 := ⟨i - 1, by omega⟩
    have e : latF n zeroN zeroN (j + 1) = .int .u32 0 := by
      unfold latF
      rw [if_neg (by omega)]
      split <;> rfl
    rw [e]
    simp only [List.getElem?_toArray, List.getElem?_cons_succ, List.getElem?_replicate]
    rw [if_pos (by omega)]
theorem Lab.lat_up {lb n a : Nat} {u d : Nat → Nat} (h : Lab w0 wr (Thing.fn lb 107 65 (latF n u d) :: ts)) (ha : a < 32) (y : Nat) : Lab w0 (wr.setCell ⟨lb, 1 + a, none⟩ (.int .u32 y)) (Thing.fn lb 107 65 (latF n (upd u a y) d) :: ts) :=
  (h.set (1 + a) (.int .u32 y)).fn_congr fun i _ => latF_up n u d ha y i
theorem Lab.lat_down {lb n a : Nat} {u d : Nat → Nat} (h : Lab w0 wr (Thing.fn lb 107 65 (latF n u d) :: ts)) (ha : a < 32) (y : Nat) : Lab w0 (wr.setCell ⟨lb, 33 + a, none⟩ (.int .u32 y)) (Thing.fn lb 107 65 (latF n u (upd d a y)) :: ts) :=
  (h.set (33 + a) (.int .u32 y)).fn_congr fun i _ => latF_down n u d ha y i
theorem Lab.lat_atU {lb n i : Nat} {u d : Nat → Nat} (h : Lab w0 wr (Thing.fn lb 107 65 (latF n u d) :: ts)) (hi : i < 32) : wr.cell? ⟨lb, 1 + i, none⟩ = some (.int .u32 (u i)) := by
  rw [← latF_atU n u d hi]; exact h.fn1.cell (by omega)
theorem Lab.lat_atD {lb n i : Nat} {u d : Nat → Nat} (h : Lab w0 wr (Thing.fn lb 107 65 (latF n u d) :: ts)) (hi : i < 32) : wr.cell? ⟨lb, 33 + i, none⟩ = some (.int .u32 (d i)) := by
  rw [← latF_atD n u d i]; exact h.fn1.cell (by omega)
theorem cell_of_box {w : World} {b : Nat} {n : Nat} (h : w.heap[b]? = some (.cells #[.int .i64 n] 3 (0, 0))) : w.cell? ⟨b, 0, none⟩ = some (.int .i64 n) := by rw [cell_of_row w b 0 _ _ _ h]; rfl
theorem pow_int {i y : Nat} (h : i < 32) (hy : 2 ^ i = y) : (2 : Int) ^ i % 4294967296 = (y : Int) := by
  have h1 := pow32 h
  have e : (2 : Int) ^ i = ((2 ^ i : Nat) : Int) := by simp
  rw [e, hy]
  rw [hy] at h1
  omega
theorem init_rows {n : Nat} (_hn : n ≤ 32) {u : Nat → Nat} (h : ∀ i, u i = if i < n then 2 ^ i else 0) : RowsOf n initR u := by
  refine ⟨fun i hi => ?_, fun i hi j => ?_⟩
  · rw [h i]; split
    · exact pow32 hi
    · decide
  · rw [h i, if_pos hi, bit_pow]
    unfold initR
    by_cases e : j = i
    · subst e; simp [hi]
    · have e' : i ≠ j := fun h => e h.symm
      simp [e, e']
theorem zeroLat (w : World) : (zeroValue 107).run Tryz.prog w = .ok (.agg (Value.int .i64 0 :: List.replicate 64 (Value.int .u32 0)).toArray) w := by kernel_rfl
set_option maxRecDepth 100000 in
theorem Lab.lat_new (h : Lab w0 wr ts) (nI : Int) (v : Value) (os : List (Int × Int)) (hv : PairsOf w0 v os) (hn : os.length ≤ 9223372036854775807) (hT : TabOk w0) :
    Calls Tryz.prog 24 #[.int .i64 nI, v] wr fun e w' =>
      (latE nI os = 0 → ∃ lb u d, e = .returned (.tuple #[.pointer (some ⟨lb, 0, none⟩), .int .i64 0]) ∧ RowsOf nI.toNat (latR nI.toNat os) u ∧ RowsOf nI.toNat (rev (latR nI.toNat os)) d ∧ Lab w0 w' (Thing.fn lb 107 65 (latF nI.toNat u d) :: ts)) ∧
      (latE nI os ≠ 0 → e = .returned (.tuple #[.pointer none, .int .i64 (latE nI os)]) ∧ Lab w0 w' ts) := by
  obtain ⟨nb, hnb⟩ : ∃ nb, wr.heap.size = nb := ⟨_, rfl⟩
  have hl1 := h.alloc #[.int .i64 nI] 3
  rw [hnb] at hl1
  obtain ⟨ao, no, co, rfl, hol, hoc⟩ := hv
  rw [hol] at hn
  have HL1 := Lib.hid hl1; have HO := Lib.hid hoc; have HOL := Lib.hid hol; have HT := Lib.hid hT
  clear h hl1 hoc hol hT
  go_enter Tryz.func24, Tryz.ntmps24
  go_upto_region 1 with fail
  clear hnb
  refine wp_abs (fun w1 => Lab w0 w1 (Thing.box nb 3 #[.int .i64 nI] :: ts)) HL1.out ?_
  clear HL1
  rintro w1 hl
  have hcn : w1.cell? ⟨nb, 0, none⟩ = some (.int .i64 nI) := by rw [cell_of_row w1 nb 0 _ _ _ hl.box1]; rfl
  have HL := Lib.hid hl
  clear hl
  by_cases hr : 1 ≤ nI ∧ nI ≤ 32
  · obtain ⟨n, rfl⟩ := Int.eq_ofNat_of_zero_le (show 0 ≤ nI by omega)
    have hn1 : 1 ≤ n := by omega
    have hn32 : n ≤ 32 := by omega
    by_cases hlong : 1024 < no
    · have HE := Lib.hid (show latE (n : Int) os = 5 by unfold latE; rw [if_neg (by omega), if_pos (by have := HOL.out; omega)])
      have HL2 := Lib.hid HL.out.drop
      have hlong' : (1024 : Int) < (no : Int) := by omega
      clear hr
      go_wp2
      go_ret2
      rw [HE.out]
      exact ⟨fun h => (by cases h), fun _ => ⟨rfl, HL2.out⟩⟩
    · have hlong' : ¬ (1024 : Int) < (no : Int) := by omega
      obtain ⟨lb, hlb⟩ : ∃ lb, w1.heap.size = lb := ⟨_, rfl⟩
      have hl2 := HL.out.new_lat n
      rw [hlb] at hl2
      obtain ⟨Z, hZ⟩ : ∃ Z, (Value.int .i64 0 :: List.replicate 64 (Value.int .u32 0)).toArray = Z := ⟨_, rfl⟩
      have hz := zeroLat w1
      rw [hZ] at hz
      have hZ1 : ¬ Z = #[] := by rw [← hZ]; intro e; have := congrArg Array.size e; simp at this
      obtain ⟨A, hA⟩ : ∃ A, (Value.int .i64 n :: List.replicate 64 (Value.int .u32 0)).toArray = A := ⟨_, rfl⟩
      have hZ2 : Z.setIfInBounds 0 (.int .i64 n) = A := by rw [← hZ, ← hA]; simp
      rw [hA] at hl2
      have hr1 : ¬ (n : Int) < 1 := by omega
      have hr2 : ¬ (32 : Int) < (n : Int) := by omega
      have HL2 := Lib.hid hl2
      clear hr hl2 hZ hA
      go_upto_region 6 with fail
      clear hlb hz hZ1 hZ2 hcn hr1 hr2 hlong'
      refine wp_abs (fun w2 => Lab w0 w2 (Thing.fn lb 107 65 (latF n zeroN zeroN) :: Thing.box nb 3 #[.int .i64 n] :: ts)) HL2.out ?_
      clear HL2
      rintro w2 hl
      have hcn : w2.cell? ⟨nb, 0, none⟩ = some (.int .i64 n) := by rw [cell_of_row w2 nb 0 _ _ _ hl.box2]; rfl
      have HL2 := Lib.hid hl
      clear hl HL
      go_upto_block 0 with fail
      clear hcn
      go_cut [29] (fun _ wx => ∃ u, RowsOf n initR u ∧ Lab w0 wx (Thing.fn lb 107 65 (latF n u zeroN) :: Thing.box nb 3 #[.int .i64 n] :: ts))
      case first =>
        go_wp2
        go_loopw [29] (fun v wx => ∃ k : Nat, k ≤ n ∧ v = .int .i64 k ∧ ∃ u, (∀ i, u i = if i < k then 2 ^ i else 0) ∧ Lab w0 wx (Thing.fn lb 107 65 (latF n u zeroN) :: Thing.box nb 3 #[.int .i64 n] :: ts)) (fun v _ => n - (intOf v).toNat)
        case atStart => exact ⟨0, by omega, rfl, zeroN, fun i => by simp [zeroN], HL2.out⟩
        case round =>
          obtain ⟨k, hk, rfl, u, hu, hl⟩ := hrel
          have HU := Lib.hid hu
          clear HL2 hu
          by_cases hlt : k < n
          · have hlt' : (k : Int) < (n : Int) := by omega
            have hk0 : (0 : Int) ≤ (k : Int) := by omega
            have hk32 : (k : Int) < 32 := by omega
            have d0 := hl.lat_atU (i := k) (by omega)
            have f0 := hl.fn1.frozen (1 + k)
            obtain ⟨y, hy⟩ : ∃ y, 2 ^ k = y := ⟨_, rfl⟩
            have hyl := pow32 (i := k) (by omega)
            have hpw : (2 : Int) ^ k % 4294967296 = (y : Int) := by
              have e : (2 : Int) ^ k = ((2 ^ k : Nat) : Int) := by simp
              rw [e, hy]; rw [hy] at hyl; omega
            have HY := Lib.hid hy
            have HL3 := Lib.hid ((hl.lat_up (a := k) (by omega) y).drew1)
            clear hl hy hyl
            go_wp2
            go_still_tail 7, (by kernel_rfl)
            go_wp2
            go_roundw
            case rel =>
              refine ⟨k + 1, by omega, by go_num, upd u k y, fun i => ?_, HL3.out⟩
              by_cases e : i = k
              · subst e; rw [upd_self, if_pos (by omega), HY.out]
              · rw [upd_other e, HU.out i]
                by_cases h2 : i < k
                · rw [if_pos h2, if_pos (by omega)]
                · rw [if_neg h2, if_neg (by omega)]
            case measure => simp [intOf]; omega
          · obtain rfl : k = n := by omega
            have hlt' : ¬ (k : Int) < (k : Int) := by omega
            have HL3 := Lib.hid hl
            clear hl
            go_wp2
            go_meet
            exact ⟨u, init_rows hn32 HU.out, HL3.out⟩
      case rest =>
        obtain ⟨u, hu, hl⟩ := hcut
        have HU := Lib.hid hu; have HL3 := Lib.hid hl
        clear hu hl HL2
        go_upto_block 2 with fail
        go_cut [42] (fun _ wx => ∃ u, RowsOf n (addAll initR os) u ∧ (∀ p ∈ os, ¬ badP n p) ∧ Lab w0 wx (Thing.fn lb 107 65 (latF n u zeroN) :: Thing.box nb 3 #[.int .i64 n] :: ts))
        case first =>
          go_wp2
          go_loopw [42] (fun v wx => ∃ k : Nat, k ≤ no ∧ v = .int .i64 k ∧ ∃ u, RowsOf n (addAll initR (os.take k)) u ∧ (∀ p ∈ os.take k, ¬ badP n p) ∧ Lab w0 wx (Thing.fn lb 107 65 (latF n u zeroN) :: Thing.box nb 3 #[.int .i64 n] :: ts)) (fun v _ => no - (intOf v).toNat)
          case atStart => exact ⟨0, by omega, rfl, u, HU.out, by simp, HL3.out⟩
          case round =>
            clear HU HL3
            obtain ⟨k, hk, rfl, u, hu, hok, hl⟩ := hrel
            have HU := Lib.hid hu; have HOK := Lib.hid hok
            clear hu hok
            by_cases hlt : k < no
            · have hlt' : (k : Int) < (no : Int) := by omega
              have hk0 : (0 : Int) ≤ (k : Int) := by omega
              obtain ⟨b, off, x, rfl, hx, c0, c1⟩ := HO.out k hlt
              replace c0 := cell_later hl.below c0
              replace c1 := cell_later hl.below c1
              have hsn : os.take (k + 1) = os.take k ++ [x] := by rw [List.take_add_one, hx]; rfl
              obtain ⟨pb, hpb⟩ : ∃ pb, wr.heap.size = pb := ⟨_, rfl⟩
              have hl4 := hl.alloc #[.int .i64 x.1, .int .i64 x.2] 93
              rw [hpb] at hl4
              have HL4 := Lib.hid hl4; have HX := Lib.hid hx; have HSN := Lib.hid hsn
              clear hl hx hsn hl4
              go_upto_region 14 with fail
              clear hpb c0 c1
              refine wp_abs (fun w4 => Lab w0 w4 (Thing.box pb 93 #[.int .i64 x.1, .int .i64 x.2] :: Thing.fn lb 107 65 (latF n u zeroN) :: Thing.box nb 3 #[.int .i64 n] :: ts)) HL4.out ?_
              clear HL4
              rintro w4 hl4
              have p0 : w4.cell? ⟨pb, 0, none⟩ = some (.int .i64 x.1) := by rw [cell_of_row w4 pb 0 _ _ _ hl4.box1]; rfl
              have p1 : w4.cell? ⟨pb, 1, none⟩ = some (.int .i64 x.2) := by rw [cell_of_row w4 pb 1 _ _ _ hl4.box1]; rfl
              have hcn : w4.cell? ⟨nb, 0, none⟩ = some (.int .i64 n) := by rw [cell_of_row w4 nb 0 _ _ _ hl4.box3]; rfl
              have HL4 := Lib.hid hl4
              clear hl4
              have hbadE : badP n x → latE (n : Int) os = 3 := fun hb => by
                unfold latE
                rw [if_neg (by omega), if_neg (by have := HOL.out; omega), if_pos ⟨x, List.mem_of_getElem? HX.out, hb⟩]
              have HBE := Lib.hid hbadE
              clear hbadE
              by_cases b1 : x.1 < 0
              · have HE := Lib.hid (HBE.out (by unfold badP; omega))
                go_wp2
                go_ret2
                rw [HE.out]
                exact ⟨fun h => (by cases h), fun _ => ⟨rfl, HL4.out.drop.drop.drop⟩⟩
              by_cases b2 : (n : Int) ≤ x.1
              · have HE := Lib.hid (HBE.out (by unfold badP; omega))
                go_wp2
                go_ret2
                rw [HE.out]
                exact ⟨fun h => (by cases h), fun _ => ⟨rfl, HL4.out.drop.drop.drop⟩⟩
              by_cases b3 : x.2 < 0
              · have HE := Lib.hid (HBE.out (by unfold badP; omega))
                go_wp2
                go_ret2
                rw [HE.out]
                exact ⟨fun h => (by cases h), fun _ => ⟨rfl, HL4.out.drop.drop.drop⟩⟩
              by_cases b4 : (n : Int) ≤ x.2
              · have HE := Lib.hid (HBE.out (by unfold badP; omega))
                go_wp2
                go_ret2
                rw [HE.out]
                exact ⟨fun h => (by cases h), fun _ => ⟨rfl, HL4.out.drop.drop.drop⟩⟩
              have HGOOD := Lib.hid (show ¬ badP n x by unfold badP; omega)
              obtain ⟨q0, q1⟩ := x
              simp only at b1 b2 b3 b4 p0 p1
              obtain ⟨i, rfl⟩ := Int.eq_ofNat_of_zero_le (show 0 ≤ q0 by omega)
              obtain ⟨j, rfl⟩ := Int.eq_ofNat_of_zero_le (show 0 ≤ q1 by omega)
              have hi32 : (i : Int) < 32 := by omega
              have hj32 : (j : Int) < 32 := by omega
              have hl5 := HL4.out.drop
              have d0 := hl5.lat_atU (i := i) (by omega)
              have f0 := hl5.fn1.frozen (1 + i)
              obtain ⟨y, hy⟩ : ∃ y, 2 ^ j = y := ⟨_, rfl⟩
              have hyl := pow32 (i := j) (by omega)
              have hpw := pow_int (i := j) (by omega) hy
              rw [hy] at hyl
              have hor := or32 (u i) y (HU.out.lt i (by omega)) hyl
              have hrow := HU.out.add_put (i := i) (j := j) (by omega) (by omega) hn32
              rw [hy] at hrow
              have HL6 := Lib.hid ((hl5.lat_up (a := i) (by omega) (u i ||| y)).drew1); have HROW := Lib.hid hrow
              clear hl5 hy hyl hrow HL4 HBE
              go_wp2
              go_still_tail 14, (by kernel_rfl)
              go_wp2
              go_roundw
              case rel =>
                refine ⟨k + 1, by omega, by go_num, _, ?_, fun q hq => ?_, HL6.out⟩
                · rw [HSN.out, addAll_snoc]; exact HROW.out
                · rw [HSN.out] at hq
                  rcases List.mem_append.1 hq with h | h
                  · exact HOK.out q h
                  · rw [List.mem_singleton.1 h]; exact HGOOD.out
              case measure => simp [intOf]; omega
            · obtain rfl : k = no := by omega
              have hlt' : ¬ (k : Int) < (k : Int) := by omega
              have et := List.take_of_length_le (i := k) (l := os) (by rw [HOL.out]; exact Nat.le_refl _)
              have HL4 := Lib.hid hl; have HET := Lib.hid et
              clear hl et
              go_wp2
              go_meet
              have h1 := HU.out
              have h2 := HOK.out
              rw [HET.out] at h1 h2
              exact ⟨u, h1, h2, HL4.out⟩
        case rest =>
          obtain ⟨u, hu, hok, hl⟩ := hcut
          have HU := Lib.hid hu; have HOK := Lib.hid hok; have HL4 := Lib.hid hl
          have hcn := cell_of_box hl.box2
          clear hu hok hl
          go_upto_block 4 with fail
          clear hcn
          go_cut [82] (fun _ wx => ∃ u, RowsOf n (latR n os) u ∧ Lab w0 wx (Thing.fn lb 107 65 (latF n u zeroN) :: Thing.box nb 3 #[.int .i64 n] :: ts))
          case first =>
            go_wp2
            go_loopw [82] (fun v wx => ∃ k : Nat, k ≤ n ∧ v = .int .i64 k ∧ ∃ u, RowsOf n (cloN (addAll initR os) k) u ∧ Lab w0 wx (Thing.fn lb 107 65 (latF n u zeroN) :: Thing.box nb 3 #[.int .i64 n] :: ts)) (fun v _ => n - (intOf v).toNat)
            case atStart => exact ⟨0, by omega, rfl, u, HU.out, HL4.out⟩
            case round =>
              clear HU HL4
              obtain ⟨k, hk, rfl, u, hu, hl⟩ := hrel
              obtain ⟨R, hR⟩ : ∃ R, cloN (addAll initR os) k = R := ⟨_, rfl⟩
              rw [hR] at hu
              have HR := Lib.hid hR; have HU := Lib.hid hu; have HL5 := Lib.hid hl
              have hcn := cell_of_box hl.box2
              clear hu hl hR
              by_cases hlt : k < n
              · have hlt' : (k : Int) < (n : Int) := by omega
                have hk0 : (0 : Int) ≤ (k : Int) := by omega
                have hk32 : (k : Int) < 32 := by omega
                go_wp2
                clear hcn
                go_loopw [86] (fun v wx => ∃ i : Nat, i ≤ n ∧ v = .int .i64 i ∧ ∃ u, RowsOf n (midR R k i) u ∧ Lab w0 wx (Thing.fn lb 107 65 (latF n u zeroN) :: Thing.box nb 3 #[.int .i64 n] :: ts)) (fun v _ => n - (intOf v).toNat)
                case atStart => exact ⟨0, by omega, rfl, u, by rw [midR_zero]; exact HU.out, HL5.out⟩
                case round =>
                  clear HU HL5
                  obtain ⟨i, hi, rfl, u, hu, hl⟩ := hrel
                  have HU := Lib.hid hu
                  clear hu
                  by_cases hil : i < n
                  · have hil' : (i : Int) < (n : Int) := by omega
                    have hi0 : (0 : Int) ≤ (i : Int) := by omega
                    have hi32 : (i : Int) < 32 := by omega
                    have d0 := hl.lat_atU (i := i) (by omega)
                    have d1 := hl.lat_atU (i := k) (by omega)
                    have f0 := hl.fn1.frozen (1 + i)
                    have hsh := shift_bit (k := k) (HU.out.lt i (by omega))
                    have hb := HU.out.bit i hil k
                    rw [midR_own] at hb
                    cases hr : R i k with
                    | true =>
                      rw [hb, hr] at hsh
                      simp only [hlt, decide_true, Bool.and_self, if_true] at hsh
                      have hor := or32 (u i) (u k) (HU.out.lt i (by omega)) (HU.out.lt k (by omega))
                      have HROW := Lib.hid (HU.out.mid_put hil hlt hn32 hr)
                      have HL6 := Lib.hid ((hl.lat_up (a := i) (by omega) (u i ||| u k)).drew1)
                      clear hl hb hr HU
                      go_wp2
                      go_still_tail 16, (by kernel_rfl)
                      go_wp2
                      go_roundw
                      case rel => exact ⟨i + 1, by omega, by go_num, _, HROW.out, HL6.out⟩
                      case measure => simp [intOf]; omega
                    | false =>
                      rw [hb, hr] at hsh
                      simp only [Bool.and_false, Bool.false_eq_true, if_false] at hsh
                      have HROW := Lib.hid (HU.out.mid_skip hr)
                      have HL6 := Lib.hid hl
                      clear hl hb hr HU
                      go_wp2
                      go_roundw
                      case rel => exact ⟨i + 1, by omega, by go_num, _, HROW.out, HL6.out⟩
                      case measure => simp [intOf]; omega
                  · obtain rfl : i = n := by omega
                    have hil' : ¬ (i : Int) < (i : Int) := by omega
                    have HROW := Lib.hid (midR_end HU.out); have HL6 := Lib.hid hl
                    clear hl HU
                    go_wp2
                    go_roundw
                    case rel => exact ⟨k + 1, by omega, by go_num, u, by show RowsOf i (cloK (cloN (addAll initR os) k) k) u; rw [HR.out]; exact HROW.out, HL6.out⟩
                    case measure => simp [intOf]; omega
              · obtain rfl : k = n := by omega
                have hlt' : ¬ (k : Int) < (k : Int) := by omega
                go_wp2
                go_meet
                exact ⟨u, by unfold latR; rw [HR.out]; exact HU.out, HL5.out⟩
          case rest =>
            obtain ⟨u, hu, hl⟩ := hcut
            obtain ⟨R, hR⟩ : ∃ R, latR n os = R := ⟨_, rfl⟩
            have hrefl := latR_refl n os
            rw [hR] at hu hrefl
            have HR := Lib.hid hR; have HU := Lib.hid hu; have HL5 := Lib.hid hl; have HRF := Lib.hid hrefl
            have hcn := cell_of_box hl.box2
            clear hu hl hR hrefl
            go_upto_block 8 with fail
            clear hcn
            go_cut [118] (fun _ wx => ∃ d, RowsOf n (rev R) d ∧ Lab w0 wx (Thing.fn lb 107 65 (latF n u d) :: Thing.box nb 3 #[.int .i64 n] :: ts))
            case first =>
              go_wp2
              go_loopw [118] (fun v wx => ∃ i : Nat, i ≤ n ∧ v = .int .i64 i ∧ ∃ d, RowsOf n (dR R i 0) d ∧ Lab w0 wx (Thing.fn lb 107 65 (latF n u d) :: Thing.box nb 3 #[.int .i64 n] :: ts)) (fun v _ => n - (intOf v).toNat)
              case atStart => exact ⟨0, by omega, rfl, zeroN, dR_zero R (fun _ => rfl), HL5.out⟩
              case round =>
                clear HL5
                obtain ⟨i, hi, rfl, d, hd, hl⟩ := hrel
                have HD := Lib.hid hd; have HL5 := Lib.hid hl
                have hcn := cell_of_box hl.box2
                clear hd hl
                by_cases hil : i < n
                · have hil' : (i : Int) < (n : Int) := by omega
                  have hi0 : (0 : Int) ≤ (i : Int) := by omega
                  have hi32 : (i : Int) < 32 := by omega
                  go_wp2
                  clear hcn
                  go_loopw [122] (fun v wx => ∃ k : Nat, k ≤ n ∧ v = .int .i64 k ∧ ∃ d, RowsOf n (dR R i k) d ∧ Lab w0 wx (Thing.fn lb 107 65 (latF n u d) :: Thing.box nb 3 #[.int .i64 n] :: ts)) (fun v _ => n - (intOf v).toNat)
                  case atStart => exact ⟨0, by omega, rfl, d, HD.out, HL5.out⟩
                  case round =>
                    clear HD HL5
                    obtain ⟨k, hk, rfl, d, hd, hl⟩ := hrel
                    have HD := Lib.hid hd
                    clear hd
                    by_cases hlt : k < n
                    · have hlt' : (k : Int) < (n : Int) := by omega
                      have hk0 : (0 : Int) ≤ (k : Int) := by omega
                      have hk32 : (k : Int) < 32 := by omega
                      have d0 := hl.lat_atU (i := i) (by omega)
                      have d1 := hl.lat_atD (i := k) (by omega)
                      have f0 := hl.fn1.frozen (33 + k)
                      have hsh := shift_bit (k := k) (HU.out.lt i (by omega))
                      have hb := HU.out.bit i hil k
                      cases hr : R i k with
                      | true =>
                        rw [hb, hr] at hsh
                        simp only [hlt, decide_true, Bool.and_self, if_true] at hsh
                        obtain ⟨y, hy⟩ : ∃ y, 2 ^ i = y := ⟨_, rfl⟩
                        have hyl := pow32 (i := i) (by omega)
                        have hpw := pow_int (i := i) (by omega) hy
                        rw [hy] at hyl
                        have hor := or32 (d k) y (HD.out.lt k (by omega)) hyl
                        have hrow := HD.out.d_put hil hlt hn32 hr
                        rw [hy] at hrow
                        have HROW := Lib.hid hrow
                        have HL6 := Lib.hid ((hl.lat_down (a := k) (by omega) (d k ||| y)).drew1)
                        clear hl hb hr HD hrow hy hyl
                        go_wp2
                        go_still_tail 12, (by kernel_rfl)
                        go_wp2
                        go_roundw
                        case rel => exact ⟨k + 1, by omega, by go_num, _, HROW.out, HL6.out⟩
                        case measure => simp [intOf]; omega
                      | false =>
                        rw [hb, hr] at hsh
                        simp only [Bool.and_false, Bool.false_eq_true, if_false] at hsh
                        have HROW := Lib.hid (HD.out.d_skip hr)
                        have HL6 := Lib.hid hl
                        clear hl hb hr HD
                        go_wp2
                        go_roundw
                        case rel => exact ⟨k + 1, by omega, by go_num, _, HROW.out, HL6.out⟩
                        case measure => simp [intOf]; omega
                    · obtain rfl : k = n := by omega
                      have hlt' : ¬ (k : Int) < (k : Int) := by omega
                      have HROW := Lib.hid (dR_line HD.out); have HL6 := Lib.hid hl
                      clear hl HD
                      go_wp2
                      go_roundw
                      case rel => exact ⟨i + 1, by omega, by go_num, d, HROW.out, HL6.out⟩
                      case measure => simp [intOf]; omega
                · obtain rfl : i = n := by omega
                  have hil' : ¬ (i : Int) < (i : Int) := by omega
                  go_wp2
                  go_meet
                  exact ⟨d, dR_end HD.out, HL5.out⟩
            case rest =>
              obtain ⟨d, hd, hl⟩ := hcut
              have HD := Lib.hid hd; have HL6 := Lib.hid hl
              have hcn := cell_of_box hl.box2
              have hpre := latE_rest hn1 hn32 (by have := HOL.out; omega) HOK.out HR.out
              have HPRE := Lib.hid hpre
              clear hd hl hpre HL5
              go_upto_block 12 with fail
              clear hcn
              go_cut [150] (fun _ wx => ¬ Loops n R ∧ Lab w0 wx (Thing.fn lb 107 65 (latF n u d) :: Thing.box nb 3 #[.int .i64 n] :: ts))
              case first =>
                go_wp2
                go_loopw [150] (fun v wx => ∃ i : Nat, i ≤ n ∧ v = .int .i64 i ∧ (∀ i', i' < i → ∀ j, j < n → j ≠ i' → ¬ (R i' j = true ∧ R j i' = true)) ∧ Lab w0 wx (Thing.fn lb 107 65 (latF n u d) :: Thing.box nb 3 #[.int .i64 n] :: ts)) (fun v _ => n - (intOf v).toNat)
                case atStart => exact ⟨0, by omega, rfl, fun i' h => by omega, HL6.out⟩
                case round =>
                  clear HL6
                  obtain ⟨i, hi, rfl, hall, hl⟩ := hrel
                  have HALL := Lib.hid hall
                  clear hall
                  by_cases hil : i < n
                  · have hil' : (i : Int) < (n : Int) := by omega
                    have hi0 : (0 : Int) ≤ (i : Int) := by omega
                    have hi32 : (i : Int) < 32 := by omega
                    have d0 := hl.lat_atU (i := i) (by omega)
                    have d1 := hl.lat_atD (i := i) (by omega)
                    obtain ⟨y, hy⟩ : ∃ y, 2 ^ i = y := ⟨_, rfl⟩
                    have hpw := pow_int (i := i) (by omega) hy
                    have hand := and32 (u i) (d i) (HU.out.lt i (by omega)) (HD.out.lt i (by omega))
                    have hrow := loop_row HU.out HD.out hil (HRF.out i)
                    rw [hy] at hrow
                    have HL7 := Lib.hid hl; have HROW := Lib.hid hrow
                    clear hl hy hrow
                    by_cases he : u i &&& d i = y
                    · have he' : (((u i &&& d i : Nat) : Int) != (y : Int)) = false := by rw [he]; simp
                      have HE1 := Lib.hid (HROW.out.1 he)
                      clear he
                      go_wp2
                      go_quiet (fail)
                      go_wp2
                      go_roundw
                      case rel =>
                        refine ⟨i + 1, by omega, by go_num, fun i' hi' j hj hne => ?_, HL7.out.later (below_drewN (Below.refl _ _) _)⟩
                        by_cases e : i' = i
                        · subst e; exact HE1.out j hj hne
                        · exact HALL.out i' (by omega) j hj hne
                      case measure => simp [intOf]; omega
                    · have he' : (((u i &&& d i : Nat) : Int) != (y : Int)) = true := by rw [bne_iff_ne]; omega
                      have hno := fun h => he (HROW.out.2 h)
                      have hloop : Loops n R := by
                        refine Classical.byContradiction fun hl => hno fun j hj hne h => hl ⟨i, j, hil, hj, fun e => hne e.symm, h.1, h.2⟩
                      have HE := Lib.hid (HPRE.out.1 hloop)
                      clear he hno hloop
                      go_wp2
                      go_quiet (fail)
                      go_wp2
                      go_ret2
                      rw [HE.out]
                      exact ⟨fun h => (by cases h), fun _ => ⟨rfl, (HL7.out.later (below_drewN (Below.refl _ _) _)).drop.drop⟩⟩
                  · obtain rfl : i = n := by omega
                    have hil' : ¬ (i : Int) < (i : Int) := by omega
                    have HL7 := Lib.hid hl
                    clear hl
                    go_wp2
                    go_meet
                    exact ⟨fun ⟨a, b, ha, hb, hne, h1, h2⟩ => HALL.out a ha b hb (fun e => hne e.symm) ⟨h1, h2⟩, HL7.out⟩
              case rest =>
                obtain ⟨hnl, hl⟩ := hcut
                have HNL := Lib.hid hnl; have HL7 := Lib.hid hl
                have hw1 := whole_any wc lb 1 nb n u ⟨fun i hi => hl.lat_atU hi, HU.out.lt⟩ (HT.out.later hl.below) hn32 (cell_of_box hl.box2)
                rw [whole_rows HU.out] at hw1
                have HW1 := Lib.hid hw1
                clear hnl hl hw1 HL6
                go_wp2_with fail
                go_at_call 51
                refine HW1.out.mono ?_
                rintro e w8 ⟨B1, rfl, hB1, hb8⟩
                have hl8 := HL7.out.later hb8
                have HL8 := Lib.hid hl8; have HB1 := Lib.hid hB1
                have hw2 := whole_any w8 lb 33 nb n d ⟨fun i hi => hl8.lat_atD hi, HD.out.lt⟩ (HT.out.later hl8.below) hn32 (cell_of_box hl8.box2)
                rw [whole_rows HD.out] at hw2
                have HW2 := Lib.hid hw2
                clear hb8 hl8 hB1 hw2 HL7 HW1
                cases B1 with
                | false =>
                  have HE := Lib.hid (HPRE.out.2.2 HNL.out (fun h => (Bool.false_ne_true (HB1.out.2 h.1))))
                  go_wp2
                  go_ret2
                  rw [HE.out]
                  exact ⟨fun h => (by cases h), fun _ => ⟨rfl, HL8.out.drop.drop⟩⟩
                | true =>
                  go_wp2_with fail
                  go_at_call 51
                  refine HW2.out.mono ?_
                  rintro e w9 ⟨B2, rfl, hB2, hb9⟩
                  have hl9 := HL8.out.later hb9
                  clear HL8
                  have HL8 := Lib.hid hl9; have HB2 := Lib.hid hB2
                  clear hb9 hl9 hB2 HW2
                  cases B2 with
                  | false =>
                    have HE := Lib.hid (HPRE.out.2.2 HNL.out (fun h => (Bool.false_ne_true (HB2.out.2 h.2))))
                    go_wp2
                    go_ret2
                    rw [HE.out]
                    exact ⟨fun h => (by cases h), fun _ => ⟨rfl, HL8.out.drop.drop⟩⟩
                  | true =>
                    have HE := Lib.hid (HPRE.out.2.1 HNL.out ⟨(by simpa using HB1.out), (by simpa using HB2.out)⟩)
                    go_wp2
                    go_ret2
                    rw [HE.out]
                    refine ⟨fun _ => ⟨lb, u, d, rfl, ?_, ?_, ?_⟩, fun h => absurd rfl h⟩
                    · rw [Int.toNat_natCast, HR.out]; exact HU.out
                    · rw [Int.toNat_natCast, HR.out]; exact HD.out
                    · rw [Int.toNat_natCast]; exact HL8.out.swap.drop
  · have HE := Lib.hid (show latE nI os = 3 by unfold latE; rw [if_pos (by omega)])
    have HL2 := Lib.hid HL.out.drop
    by_cases h1 : nI < 1
    · clear hr
      go_wp2
      go_ret2
      rw [HE.out]
      exact ⟨fun h => (by cases h), fun _ => ⟨rfl, HL2.out⟩⟩
    · have h2 : 32 < nI := by omega
      clear hr
      go_wp2
      go_ret2
      rw [HE.out]
      exact ⟨fun h => (by cases h), fun _ => ⟨rfl, HL2.out⟩⟩
end
end Go.Proofs.YteamnchoddegpaaGreatDoor
namespace Go.Proofs.YteamnchoddegpaaGreatDoor
open Go.RowKit Go.Maps
set_option maxHeartbeats 3200000
/-- A lattice in memory. -/
structure LatIs (w : World) (lb n : Nat) (R : Rel) : Prop where
  cells : ∃ u d, w.rowIs lb 107 65 (latF n u d) ∧ RowsOf n R u
  le : n ≤ 32
theorem LatIs.later {w w' : World} {lb n : Nat} {R : Rel} (h : LatIs w lb n R) (hb : Below w.heap.size w w') : LatIs w' lb n R := ⟨by obtain ⟨u, d, hc, hr⟩ := h.cells; exact ⟨u, d, rowIs_later hc hb, hr⟩, h.le⟩
def lvl (n : Nat) (a : Int) : Prop := 0 ≤ a ∧ a < (n : Int)
instance (n : Nat) (a : Int) : Decidable (lvl n a) := by unfold lvl; infer_instance
def leB (n : Nat) (R : Rel) (a b : Int) : Bool := decide (lvl n a) && (decide (lvl n b) && R a.toNat b.toNat)
section
variable {w : World} {lb n : Nat} {R : Rel}
theorem llen_any (h : LatIs w lb n R) : Calls Tryz.prog 63 #[.pointer (some ⟨lb, 0, none⟩)] w fun e w' => e = .returned (.int .i64 n) ∧ w = w' := by
  obtain ⟨u, d, hc, hr⟩ := h.cells
  have c0 := hc.cell (i := 0) (by omega)
  rw [latF_at0] at c0
  clear hc hr h
  go_enter Tryz.func63, Tryz.ntmps63
  go_wp2
  go_ret
  exact ⟨rfl, rfl⟩
theorem lis_any (h : LatIs w lb n R) (a : Int) : Calls Tryz.prog 77 #[.pointer (some ⟨lb, 0, none⟩), .int .i64 a] w fun e w' => e = .returned (.bool (decide (lvl n a))) ∧ w = w' := by
  obtain ⟨u, d, hc, hr⟩ := h.cells
  have c0 := hc.cell (i := 0) (by omega)
  rw [latF_at0] at c0
  clear hc hr h
  go_enter Tryz.func77, Tryz.ntmps77
  by_cases h1 : 0 ≤ a
  · by_cases h2 : a < (n : Int)
    · have e : decide (lvl n a) = true := decide_eq_true ⟨h1, h2⟩
      rw [e]
      clear e
      go_wp2
      go_ret
      exact ⟨rfl, rfl⟩
    · have e : decide (lvl n a) = false := decide_eq_false fun h => h2 h.2
      rw [e]
      clear e
      go_wp2
      go_ret
      exact ⟨rfl, rfl⟩
  · have e : decide (lvl n a) = false := decide_eq_false fun h => h1 h.1
    rw [e]
    clear e
    go_wp2
    go_ret
    exact ⟨rfl, rfl⟩
theorem lle_any (h : LatIs w lb n R) (a b : Int) : Calls Tryz.prog 50 #[.pointer (some ⟨lb, 0, none⟩), .int .i64 a, .int .i64 b] w fun e w' => e = .returned (.bool (leB n R a b)) ∧ w = w' := by
  have H1 := Lib.hid (lis_any h a); have H2 := Lib.hid (lis_any h b)
  obtain ⟨u, d, hc, hr⟩ := h.cells
  have hn := h.le
  go_enter Tryz.func50, Tryz.ntmps50
  by_cases h1 : lvl n a
  · rw [decide_eq_true h1] at H1
    by_cases h2 : lvl n b
    · rw [decide_eq_true h2] at H2
      obtain ⟨i, rfl⟩ := Int.eq_ofNat_of_zero_le h1.1
      obtain ⟨j, rfl⟩ := Int.eq_ofNat_of_zero_le h2.1
      have hi : i < n := by have := h1.2; omega
      have hj : j < n := by have := h2.2; omega
      have c1 := hc.cell (i := 1 + i) (by omega)
      rw [latF_atU n u d (by omega)] at c1
      have hb := hr.bit i hi j
      have ht := shift_bit (x := u i) (k := j) (hr.lt i (by omega))
      rw [hb] at ht
      have hB : leB n R (i : Int) (j : Int) = R i j := by unfold leB; rw [decide_eq_true h1, decide_eq_true h2]; simp
      rw [hB]
      rw [decide_eq_true hj, Bool.true_and] at ht
      have hi0 : (0 : Int) ≤ (i : Int) := by omega
      have hj0 : (0 : Int) ≤ (j : Int) := by omega
      have hi32 : (i : Int) < 32 := by omega
      have hj32 : (j : Int) < 32 := by omega
      clear hc hr hn hb hB h h1 h2 hi hj
      cases hR : R i j with
      | true =>
        rw [hR, if_pos rfl] at ht
        clear hR
        go_wp2_with fail
        go_at_call 77
        refine H1.out.mono ?_
        rintro e w1 ⟨rfl, rfl⟩
        go_wp2_with fail
        go_at_call 77
        refine H2.out.mono ?_
        rintro e w1 ⟨rfl, rfl⟩
        go_wp2
        go_ret
        exact ⟨rfl, rfl⟩
      | false =>
        rw [hR, if_neg (by decide)] at ht
        clear hR
        go_wp2_with fail
        go_at_call 77
        refine H1.out.mono ?_
        rintro e w1 ⟨rfl, rfl⟩
        go_wp2_with fail
        go_at_call 77
        refine H2.out.mono ?_
        rintro e w1 ⟨rfl, rfl⟩
        go_wp2
        go_ret
        exact ⟨rfl, rfl⟩
    · rw [decide_eq_false h2] at H2
      have hB : leB n R a b = false := by unfold leB; rw [decide_eq_false h2]; simp
      rw [hB]
      clear hB hc hr hn h h1 h2
      go_wp2_with fail
      go_at_call 77
      refine H1.out.mono ?_
      rintro e w1 ⟨rfl, rfl⟩
      go_wp2_with fail
      go_at_call 77
      refine H2.out.mono ?_
      rintro e w1 ⟨rfl, rfl⟩
      go_wp2
      go_ret
      exact ⟨rfl, rfl⟩
  · rw [decide_eq_false h1] at H1
    have hB : leB n R a b = false := by unfold leB; rw [decide_eq_false h1]; simp
    rw [hB]
    clear hB hc hr hn h h1 H2
    go_wp2_with fail
    go_at_call 77
    refine H1.out.mono ?_
    rintro e w1 ⟨rfl, rfl⟩
    go_wp2
    go_ret
    exact ⟨rfl, rfl⟩
/-- What the functions of package twin check first. -/
def mayE (n : Nat) (level : Int) (ls : List Int) : Nat := if 1 ≤ ls.length ∧ ls.length ≤ 32 ∧ lvl n level ∧ ∀ c ∈ ls, lvl n c then 0 else 3
set_option maxRecDepth 100000 in
theorem may_any (h : LatIs w lb n R) (level : Int) {v : Value} {ls : List Int} (hs : SliceOf w .i64 v ls) :
    Calls Tryz.prog 34 #[.pointer (some ⟨lb, 0, none⟩), .int .i64 level, v] w fun e w' => e = .returned (.int .i64 (mayE n level ls)) ∧ w = w' := by
  have H1 := Lib.hid (llen_any h)
  have hn := h.le
  obtain ⟨ao, no, co, rfl, hol, hoc⟩ := hs.parts
  clear h
  have HS := Lib.hid hs
  clear hoc hs
  go_enter Tryz.func34, Tryz.ntmps34
  by_cases h1 : 1 ≤ no ∧ no ≤ 32 ∧ lvl n level
  · obtain ⟨h1a, h1b, h1c, h1d⟩ := h1
    have HM := Lib.hid (show (mayE n level ls : Nat) = if ∀ c ∈ ls, lvl n c then 0 else 3 by
      unfold mayE
      by_cases hx : ∀ c ∈ ls, lvl n c
      · rw [if_pos hx, if_pos ⟨by omega, by omega, ⟨h1c, h1d⟩, hx⟩]
      · rw [if_neg hx, if_neg fun h => hx h.2.2.2])
    have q1 : ¬ (no : Int) < 1 := by omega
    have q2 : ¬ (32 : Int) < (no : Int) := by omega
    have q3 : ¬ level < 0 := by omega
    go_wp2_with fail
    go_at_call 63
    refine H1.out.mono ?_
    rintro e w1 ⟨rfl, rfl⟩
    go_wp2
    clear q1 q2 q3 h1c h1d
    go_loopw [31] (fun v wx => ∃ k : Nat, k ≤ no ∧ v = .int .i64 k ∧ (∀ i c, i < k → ls[i]? = some c → lvl n c) ∧ w = wx) (fun v _ => no - (intOf v).toNat)
    case atStart => exact ⟨0, by omega, rfl, fun i c h => by omega, rfl⟩
    case round =>
      obtain ⟨k, hk, rfl, hall, rfl⟩ := hrel
      have HALL := Lib.hid hall
      clear hall
      by_cases hlt : k < no
      · have hlt' : (k : Int) < (no : Int) := by omega
        have hk0 : (0 : Int) ≤ (k : Int) := by omega
        obtain ⟨b, off, c, rfl, d0, hck⟩ := HS.out.parts' hlt
        have HCK := Lib.hid hck
        clear hck
        by_cases hc0 : c < 0
        · have HM' := Lib.hid (show mayE n level ls = 3 by rw [HM.out, if_neg fun h => by have := (h c (List.mem_of_getElem? HCK.out)).1; omega])
          go_wp2
          go_ret
          rw [HM'.out]
          exact ⟨rfl, rfl⟩
        · by_cases hcn : (n : Int) ≤ c
          · have HM' := Lib.hid (show mayE n level ls = 3 by rw [HM.out, if_neg fun h => by have := (h c (List.mem_of_getElem? HCK.out)).2; omega])
            go_wp2_with fail
            go_at_call 63
            refine H1.out.mono ?_
            rintro e w1 ⟨rfl, rfl⟩
            go_wp2
            go_ret
            rw [HM'.out]
            exact ⟨rfl, rfl⟩
          · go_wp2_with fail
            go_at_call 63
            refine H1.out.mono ?_
            rintro e w1 ⟨rfl, rfl⟩
            go_wp2
            go_roundw
            case rel =>
              refine ⟨k + 1, by omega, by go_num, fun i c' hi hc' => ?_, ?_⟩
              rotate_left
              · trivial
              by_cases e : i = k
              · subst e; rw [HCK.out] at hc'; obtain rfl := Option.some.inj hc'; exact ⟨by omega, by omega⟩
              · exact HALL.out i c' (by omega) hc'
            case measure => simp [intOf]; omega
      · have HM' := Lib.hid (show mayE n level ls = 0 by
          rw [HM.out, if_pos fun c hc => ?_]
          obtain ⟨i, hi, rfl⟩ := List.getElem_of_mem hc
          exact HALL.out i _ (by omega) (List.getElem?_eq_getElem hi))
        go_wp2
        go_ret
        rw [HM'.out]
        exact ⟨rfl, rfl⟩
  · have HM := Lib.hid (show mayE n level ls = 3 by unfold mayE; rw [if_neg]; intro h; exact h1 ⟨by omega, by omega, h.2.2.1⟩)
    rw [HM.out]
    by_cases h2 : no < 1
    · have h2' : (no : Int) < 1 := by omega
      clear h1
      go_wp2
      go_ret
      exact ⟨rfl, rfl⟩
    · have h2' : ¬ (no : Int) < 1 := by omega
      by_cases h3 : 32 < no
      · have h3' : (32 : Int) < (no : Int) := by omega
        clear h1
        go_wp2
        go_ret
        exact ⟨rfl, rfl⟩
      · have h3' : ¬ (32 : Int) < (no : Int) := by omega
        by_cases h4 : level < 0
        · clear h1
          go_wp2
          go_ret
          exact ⟨rfl, rfl⟩
        · have h5 : (n : Int) ≤ level := by
            rcases Int.lt_or_le level (n : Int) with h | h
            · exact absurd ⟨by omega, by omega, by omega, h⟩ h1
            · exact h
          clear h1
          go_wp2_with fail
          go_at_call 63
          refine H1.out.mono ?_
          rintro e w1 ⟨rfl, rfl⟩
          go_wp2
          go_ret
          exact ⟨rfl, rfl⟩
theorem may_len {n : Nat} {level : Int} {ls : List Int} (h : mayE n level ls = 0) : 1 ≤ ls.length ∧ ls.length ≤ 32 ∧ lvl n level ∧ ∀ c ∈ ls, lvl n c := by
  unfold mayE at h
  split at h
  · assumption
  · cases h
/-- The twin of a variable. -/
def ofR (n : Nat) (R : Rel) (level : Int) (ls : List Int) (v : Int) : Int := if leB n R (ls.getD (v.toNat / 2 % ls.length) 0) level = true then v else v + 1
set_option maxRecDepth 100000 in
theorem twof_any (h : LatIs w lb n R) (level : Int) {v : Value} {ls : List Int} (hs : SliceOf w .i64 v ls) (hl : 1 ≤ ls.length) (hl2 : ls.length ≤ 32) (m : Int) (hm : 0 ≤ m) (hm2 : m < 1000000000) :
    Calls Tryz.prog 37 #[.pointer (some ⟨lb, 0, none⟩), .int .i64 level, v, .int .i64 m] w fun e w' => e = .returned (.int .i64 (ofR n R level ls m)) ∧ w = w' := by
  obtain ⟨ao, no, co, rfl, hol, hoc⟩ := hs.parts
  obtain ⟨mm, rfl⟩ := Int.eq_ofNat_of_zero_le hm
  have hi : mm / 2 % no < no := Nat.mod_lt _ (by omega)
  obtain ⟨i, hi'⟩ : ∃ i, mm / 2 % no = i := ⟨_, rfl⟩
  rw [hi'] at hi
  obtain ⟨b, off, c, rfl, d0, hck⟩ := hs.parts' hi
  have hofR : ofR n R level ls (mm : Int) = if leB n R c level = true then (mm : Int) else (mm : Int) + 1 := by
    unfold ofR
    rw [Int.toNat_natCast, show ls.length = no from by omega, hi', List.getD_eq_getElem?_getD, hck]
    rfl
  have H1 := Lib.hid (lle_any h c level)
  obtain ⟨g, hg⟩ : ∃ g, mm / 2 = g := ⟨_, rfl⟩
  rw [hg] at hi'
  have q1 : (mm : Int).tdiv 2 = (g : Int) := by rw [Int.tdiv_eq_ediv_of_nonneg (by omega)]; omega
  have q2 : (g : Int).tmod (no : Int) = (i : Int) := by rw [Int.tmod_eq_emod_of_nonneg (by omega), ← hi']; omega
  have hg4 : IntKind.i64.wrap (g : Int) = (g : Int) := by simp [IntKind.wrap, IntKind.bits, IntKind.signed]; omega
  have hi4 : IntKind.i64.wrap (i : Int) = (i : Int) := by simp [IntKind.wrap, IntKind.bits, IntKind.signed]; omega
  have hm4 : IntKind.i64.wrap ((mm : Int) + 1) = (mm : Int) + 1 := by simp [IntKind.wrap, IntKind.bits, IntKind.signed]; omega
  rw [hofR]
  clear hofR hs h hck hm hg hi' hl2 hm2
  go_enter Tryz.func37, Tryz.ntmps37
  have hno : ¬ (no : Int) = 0 := by omega
  have hi1 : (i : Int) < (no : Int) := by omega
  have hi0 : (0 : Int) ≤ (i : Int) := by omega
  cases hB : leB n R c level with
  | true =>
    rw [hB] at H1
    clear hB
    go_wp2_with fail
    go_at_call 50
    refine H1.out.mono ?_
    rintro e w1 ⟨rfl, rfl⟩
    go_wp2
    go_ret
    exact ⟨rfl, rfl⟩
  | false =>
    rw [hB] at H1
    clear hB
    go_wp2_with fail
    go_at_call 50
    refine H1.out.mono ?_
    rintro e w1 ⟨rfl, rfl⟩
    go_wp2
    go_ret
    exact ⟨rfl, rfl⟩
/-- Var: the twin of a variable, and the error. -/
def varE (n : Nat) (level : Int) (ls : List Int) (v : Int) : Nat := if mayE n level ls ≠ 0 then 3 else if v < 0 ∨ 4194302 < v then 3 else if v % 2 = 1 then 2 else 0
def varTw (n : Nat) (R : Rel) (level : Int) (ls : List Int) (v : Int) : Int := if varE n level ls v = 0 then ofR n R level ls v else 0
theorem may_cases (n : Nat) (level : Int) (ls : List Int) : mayE n level ls = 0 ∨ mayE n level ls = 3 := by unfold mayE; split <;> simp
set_option maxRecDepth 100000 in
theorem tvar_any (h : LatIs w lb n R) (level : Int) {v : Value} {ls : List Int} (hs : SliceOf w .i64 v ls) (m : Int) :
    Calls Tryz.prog 18 #[.pointer (some ⟨lb, 0, none⟩), .int .i64 level, v, .int .i64 m] w fun e w' => e = .returned (.tuple #[.int .i64 (varTw n R level ls m), .int .i64 (varE n level ls m)]) ∧ w = w' := by
  have H1 := Lib.hid (may_any h level hs)
  rcases may_cases n level ls with hm | hm
  · rw [hm] at H1
    by_cases h1 : m < 0 ∨ 4194302 < m
    · have hE : varE n level ls m = 3 := by unfold varE; rw [if_neg (by omega), if_pos h1]
      have hN : varTw n R level ls m = 0 := by unfold varTw; rw [if_neg (by omega)]
      rw [hE, hN]
      clear hE hN hm h
      by_cases h2 : m < 0
      · clear h1
        go_enter Tryz.func18, Tryz.ntmps18
        go_wp2_with fail
        go_at_call 34
        refine H1.out.mono ?_
        rintro e w1 ⟨rfl, rfl⟩
        go_wp2
        go_ret2
        exact ⟨rfl, rfl⟩
      · have h3 : 4194302 < m := by omega
        clear h1
        go_enter Tryz.func18, Tryz.ntmps18
        go_wp2_with fail
        go_at_call 34
        refine H1.out.mono ?_
        rintro e w1 ⟨rfl, rfl⟩
        go_wp2
        go_ret2
        exact ⟨rfl, rfl⟩
    · have h2 : ¬ m < 0 := by omega
      have h3 : ¬ 4194302 < m := by omega
      obtain ⟨mm, rfl⟩ := Int.eq_ofNat_of_zero_le (show 0 ≤ m by omega)
      by_cases h4 : mm % 2 = 1
      · have hE : varE n level ls (mm : Int) = 2 := by unfold varE; rw [if_neg (by omega), if_neg h1, if_pos (by omega)]
        have hN : varTw n R level ls (mm : Int) = 0 := by unfold varTw; rw [if_neg (by omega)]
        rw [hE, hN]
        have q : (mm : Int).tmod 2 = 1 := by rw [Int.tmod_eq_emod_of_nonneg (by omega)]; omega
        clear hE hN hm h h1 h4
        go_enter Tryz.func18, Tryz.ntmps18
        go_wp2_with fail
        go_at_call 34
        refine H1.out.mono ?_
        rintro e w1 ⟨rfl, rfl⟩
        go_wp2
        go_ret2
        exact ⟨rfl, rfl⟩
      · have hE : varE n level ls (mm : Int) = 0 := by unfold varE; rw [if_neg (by omega), if_neg h1, if_neg (by omega)]
        have hN : varTw n R level ls (mm : Int) = ofR n R level ls (mm : Int) := by unfold varTw; rw [if_pos hE]
        rw [hE, hN]
        have q : (mm : Int).tmod 2 = 0 := by rw [Int.tmod_eq_emod_of_nonneg (by omega)]; omega
        have H2 := Lib.hid (twof_any h level hs (may_len hm).1 (may_len hm).2.1 (mm : Int) (by omega) (by omega))
        obtain ⟨x, hx⟩ : ∃ x, ofR n R level ls (mm : Int) = x := ⟨_, rfl⟩
        rw [hx] at H2 ⊢
        clear hx hE hN hm h h1 h4
        go_enter Tryz.func18, Tryz.ntmps18
        go_wp2_with fail
        go_at_call 34
        refine H1.out.mono ?_
        rintro e w1 ⟨rfl, rfl⟩
        go_wp2_with fail
        go_at_call 37
        refine H2.out.mono ?_
        rintro e w1 ⟨rfl, rfl⟩
        go_wp2
        go_ret2
        exact ⟨rfl, rfl⟩
  · rw [hm] at H1
    have hE : varE n level ls m = 3 := by unfold varE; rw [if_pos (by omega)]
    have hN : varTw n R level ls m = 0 := by unfold varTw; rw [if_neg (by omega)]
    rw [hE, hN]
    clear hE hN hm h
    go_enter Tryz.func18, Tryz.ntmps18
    go_wp2_with fail
    go_at_call 34
    refine H1.out.mono ?_
    rintro e w1 ⟨rfl, rfl⟩
    go_wp2
    go_ret2
    exact ⟨rfl, rfl⟩
end
end Go.Proofs.YteamnchoddegpaaGreatDoor
