/- LatI, LatJ, TwinA, Ord13, OrdT, SplitA: joined by wip/bundle.py. -/
import Derived.Test.YteamnchoddegpaaGreatDoorB1
import Derived.Test.YteamnchoddegpaaGreatDoorB2
import Derived.Test.YteamnchoddegpaaGreatDoorB3
import Derived.Test.YteamnchoddegpaaGreatDoorB4
import Derived.Test.YteamnchoddegpaaGreatDoorB5
import Derived.Test.YteamnchoddegpaaGreatDoorB6
import Derived.Test.YteamnchoddegpaaGreatDoorB7
import Derived.Test.YteamnchoddegpaaGreatDoorB8
import Derived.Test.YteamnchoddegpaaGreatDoorB9
import Derived.Test.YteamnchoddegpaaGreatDoorB10
import Derived.Test.YteamnchoddegpaaGreatDoorB11
import Derived.Test.YteamnchoddegpaaGreatDoorB12
import Derived.Test.YteamnchoddegpaaGreatDoorB13
import Derived.Test.YteamnchoddegpaaGreatDoorB14
import Derived.Test.YteamnchoddegpaaGreatDoorB15
import Derived.Test.YteamnchoddegpaaGreatDoorB16
import Derived.Test.YteamnchoddegpaaGreatDoorB17
import Derived.Test.YteamnchoddegpaaGreatDoorB18
import Derived.OrdersHeld
import Derived.StillTail
import Derived.Deep.RegionHeld3
import Derived.BigQuiet
namespace Go.Proofs.YteamnchoddegpaaGreatDoor
open Go.RowKit Go.Maps
set_option maxHeartbeats 6400000
section
variable {w0 wr w' : World} {ts : List Thing}
def initK (k : Nat) : Rel := fun i j => decide (i = j) && decide (i < k)
theorem init_next {bs : List Nat} {k n rb : Nat} (hbs : bs.length = k) : ∀ i j, i < (bs ++ [rb]).length → j < n → initR i j = if i = k ∧ j = k then true else initK k i j := by
  intro i j hi _
  rw [List.length_append, hbs] at hi
  simp only [List.length_cons, List.length_nil] at hi
  unfold initR initK
  by_cases e : i = k
  · subst e
    by_cases e2 : j = i
    · subst e2; simp
    · rw [if_neg (fun h => e2 h.2), decide_eq_false (fun h => e2 h.symm)]; rfl
  · rw [if_neg (fun h => e h.1), decide_eq_true (show i < k by omega), Bool.and_true]
abbrev matL (xb n : Nat) (R : Rel) (g c : Nat) (bs : List Nat) (ts : List Thing) : List Thing := Thing.mat bs n R :: Thing.row 84 1 (.slice (some ⟨g, 0, none⟩) n c) n (bs.map (rowV n)) :: Thing.box xb 113 #[.slice (some ⟨g, 0, none⟩) n c] :: ts
theorem Lab.mat_top {xb n g c : Nat} {R : Rel} {bs : List Nat} (h : Lab w0 wr (matL xb n R g c bs ts)) : wr.cell? ⟨xb, 0, none⟩ = some (.slice (some ⟨g, 0, none⟩) n c) := by rw [cell_of_row _ xb 0 _ _ _ h.box3]; rfl
theorem Lab.mat_at {xb n g c : Nat} {R : Rel} {bs : List Nat} (h : Lab w0 wr (matL xb n R g c bs ts)) (hb : bs.length = n) {i : Nat} (hi : i < n) : ∃ b, bs[i]? = some b ∧ wr.cell? ⟨g, i, none⟩ = some (.slice (some ⟨b, 0, none⟩) n n) := by
  refine ⟨bs[i]'(by omega), List.getElem?_eq_getElem _, ?_⟩
  rw [(row_cellAt h.second hi).1, List.getElem?_map, List.getElem?_eq_getElem (by omega)]
  rfl
theorem Lab.mat_is {xb n g c : Nat} {R : Rel} {bs : List Nat} (h : Lab w0 wr (matL xb n R g c bs ts)) (hb : bs.length = n) (hn : n ≤ 32) : MatIs wr xb n R := by
  refine ⟨g, c, fun i => bs.getD i 0, hn, h.mat_top, fun {i} hi => ?_, fun {i j} hi hj => ?_⟩
  · obtain ⟨b, h1, h2⟩ := h.mat_at hb hi
    rw [h2, List.getD_eq_getElem?_getD, h1]; rfl
  · obtain ⟨b, h1, h2⟩ := h.mat_at hb hi
    rw [List.getD_eq_getElem?_getD, h1]
    exact h.mat_cell h1 hj
theorem addP_set {R : Rel} {a b : Nat} : ∀ i j, addP R a b i j = if i = a ∧ j = b then true else R i j := by
  intro i j
  unfold addP
  by_cases h : i = a ∧ j = b
  · rw [if_pos h, decide_eq_true h.1, decide_eq_true h.2]; simp
  · rw [if_neg h]
    by_cases h1 : i = a
    · rw [decide_eq_false (show ¬ j = b from fun e => h ⟨h1, e⟩)]; simp
    · rw [decide_eq_false h1]; simp
/-- The closure in place, as far as step k, row i and place j. -/
def stpR (R : Rel) (k i j : Nat) : Rel := fun a b => if a < i ∨ (a = i ∧ b < j) then R a b || (R a k && R k b) else R a b
theorem stp_zero (R : Rel) (k : Nat) : stpR R k 0 0 = R := by funext a b; unfold stpR; rw [if_neg (by omega)]
theorem stp_ik (R : Rel) (k i j : Nat) : stpR R k i j i k = R i k := by unfold stpR; split <;> (cases R i k <;> simp)
theorem stp_kj (R : Rel) (k i j : Nat) : stpR R k i j k j = R k j := by unfold stpR; split <;> (cases R k j <;> simp)
theorem stp_ij (R : Rel) (k i j : Nat) : stpR R k i j i j = R i j := by unfold stpR; rw [if_neg (by omega)]
theorem stp_set (R : Rel) (k i j a b : Nat) : stpR R k i (j + 1) a b = if a = i ∧ b = j then (R i j || (R i k && R k j)) else stpR R k i j a b := by
  unfold stpR
  by_cases h : a = i ∧ b = j
  · rw [if_pos h, if_pos (by omega), h.1, h.2]
  · rw [if_neg h]
    by_cases h2 : a < i ∨ (a = i ∧ b < j)
    · rw [if_pos h2, if_pos (by omega)]
    · rw [if_neg h2, if_neg (by omega)]
theorem stp_line (R : Rel) (k i n a b : Nat) (hb : b < n) : stpR R k (i + 1) 0 a b = stpR R k i n a b := by
  unfold stpR
  by_cases h2 : a < i ∨ (a = i ∧ b < n)
  · rw [if_pos h2, if_pos (by omega)]
  · rw [if_neg h2, if_neg (by omega)]
theorem stp_end (R : Rel) (k n a b : Nat) (ha : a < n) : cloK R k a b = stpR R k n 0 a b := by unfold stpR cloK; rw [if_pos (by omega)]
theorem zeroRef (w : World) : (zeroValue 113).run Tryz.prog w = .ok (.agg #[.slice none 0 0]) w := by kernel_rfl
set_option maxRecDepth 100000 in
theorem Lab.ref_new (h : Lab w0 wr ts) (nI : Int) (v : Value) (os : List (Int × Int)) (hv : PairsOf w0 v os) (hn : os.length ≤ 9223372036854775807) :
    Calls Tryz.prog 25 #[.int .i64 nI, v] wr fun e w' =>
      (latE nI os = 0 → ∃ xb, e = .returned (.tuple #[.pointer (some ⟨xb, 0, none⟩), .int .i64 0]) ∧ MatIs w' xb nI.toNat (latR nI.toNat os) ∧ Lab w0 w' ts) ∧
      (latE nI os ≠ 0 → e = .returned (.tuple #[.pointer none, .int .i64 (latE nI os)]) ∧ Lab w0 w' ts) := by
  obtain ⟨ao, no, co, rfl, hol, hoc⟩ := hv
  rw [hol] at hn
  have HL := Lib.hid h; have HO := Lib.hid hoc; have HOL := Lib.hid hol
  clear h hoc hol
  go_enter Tryz.func25, Tryz.ntmps25
  by_cases hr : 1 ≤ nI ∧ nI ≤ 32
  · obtain ⟨n, rfl⟩ := Int.eq_ofNat_of_zero_le (show 0 ≤ nI by omega)
    have hn1 : 1 ≤ n := by omega
    have hn32 : n ≤ 32 := by omega
    by_cases hlong : 1024 < no
    · have HE := Lib.hid (show latE (n : Int) os = 5 by unfold latE; rw [if_neg (by omega), if_pos (by have := HOL.out; omega)])
      have hlong' : (1024 : Int) < (no : Int) := by omega
      clear hr
      go_wp2
      go_ret2
      rw [HE.out]
      exact ⟨fun h => (by cases h), fun _ => ⟨rfl, HL.out⟩⟩
    · have hlong' : ¬ (1024 : Int) < (no : Int) := by omega
      obtain ⟨xb, hxb⟩ : ∃ xb, wr.heap.size = xb := ⟨_, rfl⟩
      have hr1 : ¬ (n : Int) < 1 := by omega
      have hr2 : ¬ (32 : Int) < (n : Int) := by omega
      have hl1 := ((HL.out.alloc #[.slice none 0 0] 113).nil_row 84).mat_nil n initR
      rw [hxb] at hl1
      have HL1 := Lib.hid hl1
      have hz := zeroRef wr
      clear hr hl1 HL
      go_upto_region 6 with fail
      clear hxb hr1 hr2 hlong' hz
      refine wp_abs (fun w1 => Lab w0 w1 (Thing.mat [] n initR :: Thing.row 84 1 (.slice none 0 0) 0 [] :: Thing.box xb 113 #[.slice none 0 0] :: ts)) HL1.out ?_
      clear HL1
      rintro w1 hl
      have HL := Lib.hid hl
      clear hl
      go_upto_block 0 with fail
      go_cut [7] (fun _ wx => ∃ bs ao c, bs.length = n ∧ Lab w0 wx (Thing.mat bs n initR :: Thing.row 84 1 (.slice ao n c) n (bs.map (rowV n)) :: Thing.box xb 113 #[.slice ao n c] :: ts))
      case first =>
        go_wp2
        go_loopw [7] (fun v wx => ∃ k : Nat, k ≤ n ∧ v = .int .i64 k ∧ ∃ bs ao c, bs.length = k ∧ Lab w0 wx (Thing.mat bs n initR :: Thing.row 84 1 (.slice ao k c) k (bs.map (rowV n)) :: Thing.box xb 113 #[.slice ao k c] :: ts)) (fun v _ => n - (intOf v).toNat)
        case atStart => exact ⟨0, by omega, rfl, [], none, 0, rfl, HL.out⟩
        case round =>
          clear HL
          obtain ⟨k, hk, rfl, bs, ao1, c1, hbs, hl⟩ := hrel
          by_cases hlt : k < n
          · have hlt' : (k : Int) < (n : Int) := by omega
            have hk0 : (0 : Int) ≤ (k : Int) := by omega
            have d0 : wr.cell? ⟨xb, 0, none⟩ = some (.slice ao1 k c1) := by rw [cell_of_row wr xb 0 _ _ _ hl.box3]; rfl
            have hn0 : (0 : Int) ≤ (n : Int) := by omega
            obtain ⟨rb, hrb⟩ : ∃ rb, wr.heap.size = rb := ⟨_, rfl⟩
            have hl1 := hl.drew1.mat_more (R' := initK k) (fun i j hi _ => by unfold initK initR; rw [decide_eq_true (show i < k by omega), Bool.and_true]) (fun j hj => by unfold initK; rw [decide_eq_false (show ¬ bs.length < k by omega), Bool.and_false])
            rw [show wr.drew.heap.size = rb from hrb] at hl1
            have hmk1 : ∀ w, (Instr.makeSlice 84 (.int .i64 (n : Int)) (.int .i64 (n : Int))).run Tryz.prog w = .ok (.slice (some ⟨w.heap.size, 0, none⟩) n n) (w.alloc (.cells (madeCells #[.bool false] n) 4)) :=
              run_make_row' (P := Tryz.prog) 84 4 (.bool false) 1 Tryz.underlying84 Tryz.infoBool rfl .i64 .i64 n (by omega) (by omega)
            have hnb : (wr.drew.alloc (.cells (madeCells #[.bool false] n) 4)).heap.size = rb + 1 := by show (wr.alloc _).heap.size = rb + 1; rw [World.size_alloc, hrb]
            have d1 : (wr.alloc (.cells (madeCells #[.bool false] n) 4)).cell? ⟨xb, 0, none⟩ = some (.slice ao1 k c1) := by have h := cell_of_row _ xb 0 _ _ _ hl1.box3; exact h
            have hl2 := hl1.later (below_new _ (.cells #[.slice (some ⟨rb, 0, none⟩) n n] 84))
            have d2 : ((wr.alloc (.cells (madeCells #[.bool false] n) 4)).alloc (.cells #[.slice (some ⟨rb, 0, none⟩) n n] 84)).cell? ⟨xb, 0, none⟩ = some (.slice ao1 k c1) := by have h := cell_of_row _ xb 0 _ _ _ hl2.box3; exact h
            obtain ⟨a5, c5, w5, happ, hl5⟩ := run_append_row (u := .slice (some ⟨rb, 0, none⟩) n n) 111 111 84 24 (.slice none 0 0) hl1.swap hnb rfl Tryz.underlying111 Tryz.infoBools rfl (by decide) (by omega)
            have d5 : w5.cell? ⟨xb, 0, none⟩ = some (.slice ao1 k c1) := by rw [cell_of_row _ xb 0 _ _ _ hl5.box3]; rfl
            have f5 : w5.frozen? ⟨xb, 0, none⟩ = false := frozen_of_row _ _ _ _ _ hl5.box3
            replace happ : (Builtin.append_ #[111, 111] 111 #[.slice ao1 k c1, .slice (some ⟨rb + 1, 0, none⟩) 1 1]).run Tryz.prog ((wr.alloc (.cells (madeCells #[.bool false] n) 4)).alloc (.cells #[.slice (some ⟨rb, 0, none⟩) n n] 84)).drew = .ok (.slice a5 (k + 1) c5) w5 := happ
            have HL5 := Lib.hid hl5; have HBS := Lib.hid hbs
            clear hl hl1 hl2 hl5 hbs hnb
            go_upto_region 9 with fail
            go_region_law (refine step_append_is rfl _ _ 111 rfl (.slice ao1 k c1) (.slice (some ⟨rb + 1, 0, none⟩) 1 1) rfl rfl (.slice a5 (k + 1) c5) w5 happ ?_)
            all_goals
              clear happ d0 d1 d2 d5 f5 hmk1
              obtain ⟨g, rfl⟩ := row_some HL5.out.head (by omega)
              have hl6 := HL5.out.rot3.store 0 (.slice (some ⟨g, 0, none⟩) (k + 1) c5)
              have k0 : (w5.setCell ⟨xb, 0, none⟩ (.slice (some ⟨g, 0, none⟩) (k + 1) c5)).cell? ⟨xb, 0, none⟩ = some (.slice (some ⟨g, 0, none⟩) (k + 1) c5) := by rw [cell_of_row _ xb 0 _ _ _ hl6.box1]; rfl
              have k1 : (w5.setCell ⟨xb, 0, none⟩ (.slice (some ⟨g, 0, none⟩) (k + 1) c5)).cell? ⟨g, k, none⟩ = some (.slice (some ⟨rb, 0, none⟩) n n) := by
                rw [(row_cellAt hl6.second (by omega)).1, List.getElem?_append_right (by simp [HBS.out])]
                simp [HBS.out]
              have hrb : (bs ++ [rb])[k]? = some rb := by rw [List.getElem?_append_right (by simp [HBS.out])]; simp [HBS.out]
              have hl7 := hl6.rot3
              have k2 := hl7.mat_cell hrb hlt
              have k3 := (hl7.mat_row hrb).frozen k
              have hl8 := ((hl7.mat_set (R' := fun i' j' => if i' = k ∧ j' = k then true else initK k i' j') hrb (j := k) true (fun i' j' => rfl)).mat_congr (R' := initR) (init_next HBS.out)).rot3.swap
              have hmap : bs.map (rowV n) ++ [.slice (some ⟨rb, 0, none⟩) n n] = (bs ++ [rb]).map (rowV n) := by rw [List.map_append]; rfl
              rw [hmap] at hl8
              have HL8 := Lib.hid hl8
              clear hl6 hl7 hl8 hrb hmap
              have q1 : (k : Int) < (k : Int) + 1 := by omega
              go_wp2
              exact ⟨⟨k + 1, by omega, rfl, bs ++ [rb], _, c5, by rw [List.length_append, HBS.out]; rfl, HL8.out⟩, by simp [intOf]; omega⟩
          · obtain rfl : k = n := by omega
            have hlt' : ¬ (k : Int) < (k : Int) := by omega
            have HL3 := Lib.hid hl
            clear hl
            go_wp2
            go_meet
            exact ⟨bs, ao1, c1, hbs, HL3.out⟩
      case rest =>
        obtain ⟨bs, ao1, c1, hbs, hl⟩ := hcut
        obtain ⟨g, rfl⟩ := row_some hl.second (by omega)
        have HBS := Lib.hid hbs; have HL2 := Lib.hid hl
        clear hbs hl HL
        go_upto_block 2 with fail
        go_cut [8] (fun _ wx => (∀ p ∈ os, ¬ badP n p) ∧ Lab w0 wx (matL xb n (addAll initR os) g c1 bs ts))
        case first =>
          go_wp2
          go_loopw [8] (fun v wx => ∃ k : Nat, k ≤ no ∧ v = .int .i64 k ∧ (∀ p ∈ os.take k, ¬ badP n p) ∧ Lab w0 wx (matL xb n (addAll initR (os.take k)) g c1 bs ts)) (fun v _ => no - (intOf v).toNat)
          case atStart => exact ⟨0, by omega, rfl, by simp, HL2.out⟩
          case round =>
            clear HL2
            obtain ⟨k, hk, rfl, hok, hl⟩ := hrel
            have HOK := Lib.hid hok
            clear hok
            by_cases hlt : k < no
            · have hlt' : (k : Int) < (no : Int) := by omega
              have hk0 : (0 : Int) ≤ (k : Int) := by omega
              obtain ⟨b, off, x, rfl, hx, c0, c1⟩ := HO.out k hlt
              have hsn : os.take (k + 1) = os.take k ++ [x] := by rw [List.take_add_one, hx]; rfl
              have e0 : ∀ q, (wr.drewN q).cell? ⟨b, off + k * 2, none⟩ = some (.int .i64 x.1) := fun q => cell_later (hl.drewN q).below c0
              have e1 : ∀ q, (wr.drewN q).cell? ⟨b, off + k * 2 + 1, none⟩ = some (.int .i64 x.2) := fun q => cell_later (hl.drewN q).below c1
              have HL4 := Lib.hid hl; have HX := Lib.hid hx; have HSN := Lib.hid hsn
              clear hl hx hsn c0 c1
              go_upto_region 14 with fail
              go_quiet (fail)
              have hl5 := HL4.out.drewN nq
              have HL5 := Lib.hid hl5
              clear hl5 e0 e1
              have hbadE : badP n x → latE (n : Int) os = 3 := fun hb => by
                unfold latE
                rw [if_neg (by omega), if_neg (by have := HOL.out; omega), if_pos ⟨x, List.mem_of_getElem? HX.out, hb⟩]
              have HBE := Lib.hid hbadE
              clear hbadE
              by_cases b1 : x.1 < 0
              · have HE := Lib.hid (HBE.out (by unfold badP; omega))
                go_wp2
                go_ret2
                rw [HE.out]
                exact ⟨fun h => (by cases h), fun _ => ⟨rfl, HL5.out.drop.drop.drop⟩⟩
              by_cases b2 : (n : Int) ≤ x.1
              · have HE := Lib.hid (HBE.out (by unfold badP; omega))
                go_wp2
                go_ret2
                rw [HE.out]
                exact ⟨fun h => (by cases h), fun _ => ⟨rfl, HL5.out.drop.drop.drop⟩⟩
              by_cases b3 : x.2 < 0
              · have HE := Lib.hid (HBE.out (by unfold badP; omega))
                go_wp2
                go_ret2
                rw [HE.out]
                exact ⟨fun h => (by cases h), fun _ => ⟨rfl, HL5.out.drop.drop.drop⟩⟩
              by_cases b4 : (n : Int) ≤ x.2
              · have HE := Lib.hid (HBE.out (by unfold badP; omega))
                go_wp2
                go_ret2
                rw [HE.out]
                exact ⟨fun h => (by cases h), fun _ => ⟨rfl, HL5.out.drop.drop.drop⟩⟩
              have HGOOD := Lib.hid (show ¬ badP n x by unfold badP; omega)
              obtain ⟨q0, q1⟩ := x
              simp only at b1 b2 b3 b4
              obtain ⟨i, rfl⟩ := Int.eq_ofNat_of_zero_le (show 0 ≤ q0 by omega)
              obtain ⟨j, rfl⟩ := Int.eq_ofNat_of_zero_le (show 0 ≤ q1 by omega)
              have hi : i < n := by omega
              have hj : j < n := by omega
              have hi' : (i : Int) < (n : Int) := by omega
              have hj' : (j : Int) < (n : Int) := by omega
              have hi0 : (0 : Int) ≤ (i : Int) := by omega
              have hj0 : (0 : Int) ≤ (j : Int) := by omega
              obtain ⟨bi, hbi, k1⟩ := HL5.out.mat_at HBS.out hi
              have k0 := HL5.out.mat_top
              have k2 := HL5.out.mat_cell hbi hj
              have k3 := (HL5.out.mat_row hbi).frozen j
              have hl6 := HL5.out.mat_set (R' := addAll initR (os.take (k + 1))) hbi (j := j) true (fun i' j' => by rw [HSN.out, addAll_snoc]; exact addP_set i' j')
              have HL6 := Lib.hid hl6
              clear hl6 hbi
              go_wp2
              refine ⟨⟨k + 1, by omega, rfl, fun p hp => ?_, HL6.out⟩, by simp [intOf]; omega⟩
              rw [HSN.out] at hp
              rcases List.mem_append.1 hp with h | h
              · exact HOK.out p h
              · rw [List.mem_singleton.1 h]; exact HGOOD.out
            · obtain rfl : k = no := by omega
              have hlt' : ¬ (k : Int) < (k : Int) := by omega
              have HL3 := Lib.hid hl
              have HT := Lib.hid (show os.take k = os by rw [List.take_of_length_le (by have := HOL.out; omega)])
              clear hl
              go_wp2
              go_meet
              have h1 := HOK.out
              have h2 := HL3.out
              rw [HT.out] at h1 h2
              exact ⟨h1, h2⟩
        case rest =>
          obtain ⟨hok, hl⟩ := hcut
          have HOK := Lib.hid hok; have HL3 := Lib.hid hl
          clear hok hl HL2
          go_upto_block 4 with fail
          go_cut [11] (fun _ wx => Lab w0 wx (matL xb n (latR n os) g c1 bs ts))
          case first =>
            go_wp2
            go_loopw [11] (fun v wx => ∃ k : Nat, k ≤ n ∧ v = .int .i64 k ∧ Lab w0 wx (matL xb n (cloN (addAll initR os) k) g c1 bs ts)) (fun v _ => n - (intOf v).toNat)
            case atStart => exact ⟨0, by omega, rfl, HL3.out⟩
            case round =>
              clear HL3
              obtain ⟨k, hk, rfl, hl⟩ := hrel
              obtain ⟨R, hR⟩ : ∃ R, cloN (addAll initR os) k = R := ⟨_, rfl⟩
              rw [hR] at hl
              have HR := Lib.hid hR; have HL4 := Lib.hid hl
              clear hl hR
              by_cases hlt : k < n
              · have hlt' : (k : Int) < (n : Int) := by omega
                have hk0 : (0 : Int) ≤ (k : Int) := by omega
                go_wp2
                go_loopw [12] (fun v wx => ∃ i : Nat, i ≤ n ∧ v = .int .i64 i ∧ Lab w0 wx (matL xb n (stpR R k i 0) g c1 bs ts)) (fun v _ => n - (intOf v).toNat)
                case atStart => exact ⟨0, by omega, rfl, by rw [stp_zero]; exact HL4.out⟩
                case round =>
                  clear HL4
                  obtain ⟨i, hi, rfl, hl⟩ := hrel
                  have HL5 := Lib.hid hl
                  clear hl
                  by_cases hil : i < n
                  · have hil' : (i : Int) < (n : Int) := by omega
                    have hi0 : (0 : Int) ≤ (i : Int) := by omega
                    go_wp2
                    go_loopw [13] (fun v wx => ∃ j : Nat, j ≤ n ∧ v = .int .i64 j ∧ Lab w0 wx (matL xb n (stpR R k i j) g c1 bs ts)) (fun v _ => n - (intOf v).toNat)
                    case atStart => exact ⟨0, by omega, rfl, HL5.out⟩
                    case round =>
                      clear HL5
                      obtain ⟨j, hj, rfl, hl⟩ := hrel
                      by_cases hjl : j < n
                      · have hjl' : (j : Int) < (n : Int) := by omega
                        have hj0 : (0 : Int) ≤ (j : Int) := by omega
                        obtain ⟨bi, hbi, k1⟩ := hl.mat_at HBS.out hil
                        obtain ⟨bk, hbk, k2⟩ := hl.mat_at HBS.out hlt
                        have k0 := hl.mat_top
                        have dij := hl.mat_cell hbi hjl
                        have dik := hl.mat_cell hbi hlt
                        have dkj := hl.mat_cell hbk hjl
                        rw [stp_ij] at dij
                        rw [stp_ik] at dik
                        rw [stp_kj] at dkj
                        have fij := (hl.mat_row hbi).frozen j
                        have HL6 := Lib.hid (fun v (hv : v = (R i j || (R i k && R k j))) => (hl.mat_set (R' := stpR R k i (j + 1)) hbi (j := j) v (fun i' j' => by rw [hv]; exact stp_set R k i j i' j')).drew1)
                        clear hl hbi hbk
                        cases hp : R i j with
                        | true =>
                          rw [hp] at dij HL6
                          clear hp dik dkj
                          go_wp2
                          refine wp_region_quiet_tail 43 (by kernel_rfl) (by kernel_rfl) ?_
                          simp only [List.take_succ_cons, List.take_zero, List.drop_succ_cons, List.drop_zero]
                          repeat (go_big_quiet_step (fail))
                          refine wpQuiet_nil ?_
                          go_wp2
                          go_roundw
                          case rel => exact ⟨j + 1, by omega, by go_num, HL6.out true (by simp)⟩
                          case measure => simp [intOf]; omega
                        | false =>
                          rw [hp] at dij HL6
                          clear hp
                          cases hq : R i k with
                          | false =>
                            rw [hq] at dik HL6
                            clear hq dkj
                            go_wp2
                            refine wp_region_quiet_tail 43 (by kernel_rfl) (by kernel_rfl) ?_
                            simp only [List.take_succ_cons, List.take_zero, List.drop_succ_cons, List.drop_zero]
                            repeat (go_big_quiet_step (fail))
                            refine wpQuiet_nil ?_
                            go_wp2
                            go_roundw
                            case rel => exact ⟨j + 1, by omega, by go_num, HL6.out false (by simp)⟩
                            case measure => simp [intOf]; omega
                          | true =>
                            rw [hq] at dik HL6
                            clear hq
                            cases hr : R k j with
                            | false =>
                              rw [hr] at dkj HL6
                              clear hr
                              go_wp2
                              refine wp_region_quiet_tail 43 (by kernel_rfl) (by kernel_rfl) ?_
                              simp only [List.take_succ_cons, List.take_zero, List.drop_succ_cons, List.drop_zero]
                              repeat (go_big_quiet_step (fail))
                              refine wpQuiet_nil ?_
                              go_wp2
                              go_roundw
                              case rel => exact ⟨j + 1, by omega, by go_num, HL6.out false (by simp)⟩
                              case measure => simp [intOf]; omega
                            | true =>
                              rw [hr] at dkj HL6
                              clear hr
                              go_wp2
                              refine wp_region_quiet_tail 43 (by kernel_rfl) (by kernel_rfl) ?_
                              simp only [List.take_succ_cons, List.take_zero, List.drop_succ_cons, List.drop_zero]
                              repeat (go_big_quiet_step (fail))
                              refine wpQuiet_nil ?_
                              go_wp2
                              go_roundw
                              case rel => exact ⟨j + 1, by omega, by go_num, HL6.out true (by simp)⟩
                              case measure => simp [intOf]; omega
                      · obtain rfl : j = n := by omega
                        have hjl' : ¬ (j : Int) < (j : Int) := by omega
                        have HL6 := Lib.hid hl
                        clear hl
                        go_wp2
                        go_roundw
                        case rel => exact ⟨i + 1, by omega, by go_num, HL6.out.mat_congr (fun a b _ hb => stp_line R k i j a b hb)⟩
                        case measure => simp [intOf]; omega
                  · obtain rfl : i = n := by omega
                    have hil' : ¬ (i : Int) < (i : Int) := by omega
                    go_wp2
                    go_roundw
                    case rel => exact ⟨k + 1, by omega, by go_num, HL5.out.mat_congr (fun a b ha _ => by show cloK (cloN (addAll initR os) k) k a b = _; rw [HR.out]; exact stp_end R k i a b (by have := HBS.out; omega))⟩
                    case measure => simp [intOf]; omega
              · obtain rfl : k = n := by omega
                have hlt' : ¬ (k : Int) < (k : Int) := by omega
                go_wp2
                go_meet
                exact HL4.out.mat_congr (fun a b _ _ => by rw [← HR.out]; rfl)
          case rest =>
            clear HL3
            obtain ⟨R, hR⟩ : ∃ R, latR n os = R := ⟨_, rfl⟩
            rw [hR] at hcut
            have HL4 := Lib.hid hcut
            have hpre := latE_rest hn1 hn32 (by have := HOL.out; omega) HOK.out hR
            have HPRE := Lib.hid hpre; have HR := Lib.hid hR
            clear hcut hpre hR HOK
            go_upto_block 10 with fail
            go_cut [14] (fun _ wx => ¬ Loops n R ∧ Lab w0 wx (matL xb n R g c1 bs ts))
            case first =>
              go_wp2
              go_loopw [14] (fun v wx => ∃ i : Nat, i ≤ n ∧ v = .int .i64 i ∧ (∀ i' j', i' < i → j' < i' → ¬ (R i' j' = true ∧ R j' i' = true)) ∧ Lab w0 wx (matL xb n R g c1 bs ts)) (fun v _ => n - (intOf v).toNat)
              case atStart => exact ⟨0, by omega, rfl, fun i' j' h => by omega, HL4.out⟩
              case round =>
                clear HL4
                obtain ⟨i, hi, rfl, hall, hl⟩ := hrel
                have HL5 := Lib.hid hl; have HALL := Lib.hid hall
                clear hl hall
                by_cases hil : i < n
                · have hil' : (i : Int) < (n : Int) := by omega
                  have hi0 : (0 : Int) ≤ (i : Int) := by omega
                  go_wp2
                  go_loopw [15] (fun v wx => ∃ j : Nat, j ≤ i ∧ v = .int .i64 j ∧ (∀ j', j' < j → ¬ (R i j' = true ∧ R j' i = true)) ∧ Lab w0 wx (matL xb n R g c1 bs ts)) (fun v _ => i - (intOf v).toNat)
                  case atStart => exact ⟨0, by omega, rfl, fun j' h => by omega, HL5.out⟩
                  case round =>
                    clear HL5
                    obtain ⟨j, hj, rfl, hin, hl⟩ := hrel
                    have HIN := Lib.hid hin
                    clear hin
                    by_cases hjl : j < i
                    · have hjl' : (j : Int) < (i : Int) := by omega
                      have hjn : (j : Int) < (n : Int) := by omega
                      have hj0 : (0 : Int) ≤ (j : Int) := by omega
                      obtain ⟨bi, hbi, k1⟩ := hl.mat_at HBS.out hil
                      obtain ⟨bj, hbj, k2⟩ := hl.mat_at HBS.out (show j < n by omega)
                      have k0 := hl.mat_top
                      have dij := hl.mat_cell hbi (show j < n by omega)
                      have dji := hl.mat_cell hbj hil
                      have HL6 := Lib.hid hl
                      clear hl hbi hbj
                      cases hp : R i j with
                      | true =>
                        rw [hp] at dij
                        cases hq : R j i with
                        | true =>
                          rw [hq] at dji
                          have HE := Lib.hid (HPRE.out.1 ⟨i, j, hil, by omega, by omega, hp, hq⟩)
                          clear hp hq
                          go_wp2
                          go_ret2
                          rw [HE.out]
                          exact ⟨fun h => (by cases h), fun _ => ⟨rfl, HL6.out.drop.drop.drop⟩⟩
                        | false =>
                          rw [hq] at dji
                          have HN := Lib.hid (show ¬ (R i j = true ∧ R j i = true) by rw [hq]; simp)
                          clear hp hq
                          go_wp2
                          go_roundw
                          case rel =>
                            refine ⟨j + 1, by omega, by go_num, fun j' hj' => ?_, HL6.out⟩
                            by_cases e : j' = j
                            · subst e; exact HN.out
                            · exact HIN.out j' (by omega)
                          case measure => simp [intOf]; omega
                      | false =>
                        rw [hp] at dij
                        have HN := Lib.hid (show ¬ (R i j = true ∧ R j i = true) by rw [hp]; simp)
                        clear hp
                        go_wp2
                        go_roundw
                        case rel =>
                          refine ⟨j + 1, by omega, by go_num, fun j' hj' => ?_, HL6.out⟩
                          by_cases e : j' = j
                          · subst e; exact HN.out
                          · exact HIN.out j' (by omega)
                        case measure => simp [intOf]; omega
                    · obtain rfl : j = i := by omega
                      have hjl' : ¬ (j : Int) < (j : Int) := by omega
                      have HL6 := Lib.hid hl
                      clear hl
                      go_wp2
                      go_roundw
                      case rel =>
                        refine ⟨j + 1, by omega, by go_num, fun i' j' hi' hj' => ?_, HL6.out⟩
                        by_cases e : i' = j
                        · subst e; exact HIN.out j' hj'
                        · exact HALL.out i' j' (by omega) hj'
                      case measure => simp [intOf]; omega
                · obtain rfl : i = n := by omega
                  have hil' : ¬ (i : Int) < (i : Int) := by omega
                  go_wp2
                  go_meet
                  refine ⟨?_, HL5.out⟩
                  rintro ⟨a, b, ha, hb, hne, h1, h2⟩
                  rcases Nat.lt_or_ge b a with h | h
                  · exact HALL.out a b ha h ⟨h1, h2⟩
                  · exact HALL.out b a hb (by omega) ⟨h2, h1⟩
            case rest =>
              clear HL4
              obtain ⟨hnl, hl⟩ := hcut
              have HNL := Lib.hid hnl; have HL5 := Lib.hid hl
              clear hnl hl
              go_wp2
              go_loopw [16] (fun v wx => ∃ i : Nat, i ≤ n ∧ v = .int .i64 i ∧ (∀ a b, a < i → b < n → JoinE n R a b ∧ MeetE n R a b) ∧ Lab w0 wx (matL xb n R g c1 bs ts)) (fun v _ => n - (intOf v).toNat)
              case atStart => exact ⟨0, by omega, rfl, fun i' j' h => by omega, HL5.out⟩
              case round =>
                clear HL5
                obtain ⟨i, hi, rfl, hall, hl⟩ := hrel
                have HL5 := Lib.hid hl; have HALL := Lib.hid hall
                clear hl hall
                by_cases hil : i < n
                · have hil' : (i : Int) < (n : Int) := by omega
                  go_wp2
                  go_loopw [17] (fun v wx => ∃ j : Nat, j ≤ n ∧ v = .int .i64 j ∧ (∀ b, b < j → JoinE n R i b ∧ MeetE n R i b) ∧ Lab w0 wx (matL xb n R g c1 bs ts)) (fun v _ => n - (intOf v).toNat)
                  case atStart => exact ⟨0, by omega, rfl, fun j' h => by omega, HL5.out⟩
                  case round =>
                    clear HL5
                    obtain ⟨j, hj, rfl, hin, hl⟩ := hrel
                    have HIN := Lib.hid hin; have HL6 := Lib.hid hl
                    clear hin hl
                    by_cases hjl : j < n
                    · have hjl' : (j : Int) < (n : Int) := by omega
                      have HM := Lib.hid (HL6.out.mat_is HBS.out hn32)
                      have HJ := Lib.hid (rjoin_any HM.out i j hil hjl)
                      have HT := Lib.hid (rmeet_any HM.out i j hil hjl)
                      have HBADE := Lib.hid (show ¬ (JoinE n R i j ∧ MeetE n R i j) → latE (n : Int) os = 4 from fun h => HPRE.out.2.2 HNL.out (fun hj => h ⟨hj.1 i hil j hjl, hj.2 i hil j hjl⟩))
                      go_wp2_with fail
                      go_at_call 53
                      refine HJ.out.mono ?_
                      rintro e w8 ⟨r, rfl, hr, rfl⟩
                      by_cases hr0 : r < 0
                      · have HE := Lib.hid (HBADE.out (fun h => hr.1 hr0 h.1))
                        clear hr
                        go_wp2
                        go_ret2
                        rw [HE.out]
                        exact ⟨fun h => (by cases h), fun _ => ⟨rfl, HL6.out.drop.drop.drop⟩⟩
                      · have HJY := Lib.hid (show JoinE n R i j from Classical.byContradiction fun h => hr0 (hr.2 h))
                        clear hr
                        go_wp2_with fail
                        go_at_call 54
                        refine HT.out.mono ?_
                        rintro e w8 ⟨q, rfl, hq, rfl⟩
                        by_cases hq0 : q < 0
                        · have HE := Lib.hid (HBADE.out (fun h => hq.1 hq0 h.2))
                          clear hq
                          go_wp2
                          go_ret2
                          rw [HE.out]
                          exact ⟨fun h => (by cases h), fun _ => ⟨rfl, HL6.out.drop.drop.drop⟩⟩
                        · have HMY := Lib.hid (show MeetE n R i j from Classical.byContradiction fun h => hq0 (hq.2 h))
                          clear hq
                          go_wp2
                          go_roundw
                          case rel =>
                            refine ⟨j + 1, by omega, by go_num, fun b hb => ?_, HL6.out⟩
                            by_cases e : b = j
                            · subst e; exact ⟨HJY.out, HMY.out⟩
                            · exact HIN.out b (by omega)
                          case measure => simp [intOf]; omega
                    · obtain rfl : j = n := by omega
                      have hjl' : ¬ (j : Int) < (j : Int) := by omega
                      go_wp2
                      go_roundw
                      case rel =>
                        refine ⟨i + 1, by omega, by go_num, fun a b ha hb => ?_, HL6.out⟩
                        by_cases e : a = i
                        · subst e; exact HIN.out b hb
                        · exact HALL.out a b (by omega) hb
                      case measure => simp [intOf]; omega
                · obtain rfl : i = n := by omega
                  have hil' : ¬ (i : Int) < (i : Int) := by omega
                  have HE := Lib.hid (HPRE.out.2.1 HNL.out ⟨fun a ha b hb => (HALL.out a b ha hb).1, fun a ha b hb => (HALL.out a b ha hb).2⟩)
                  go_wp2
                  go_ret2
                  rw [HE.out]
                  refine ⟨fun _ => ⟨xb, rfl, ?_, HL5.out.drop.drop.drop⟩, fun h => absurd rfl h⟩
                  rw [HR.out]
                  exact HL5.out.mat_is HBS.out hn32
  · have HE := Lib.hid (show latE nI os = 3 by unfold latE; rw [if_pos (by omega)])
    by_cases h1 : nI < 1
    · clear hr
      go_wp2
      go_ret2
      rw [HE.out]
      exact ⟨fun h => (by cases h), fun _ => ⟨rfl, HL.out⟩⟩
    · have h2 : 32 < nI := by omega
      clear hr
      go_wp2
      go_ret2
      rw [HE.out]
      exact ⟨fun h => (by cases h), fun _ => ⟨rfl, HL.out⟩⟩
end
end Go.Proofs.YteamnchoddegpaaGreatDoor
namespace Go.Proofs.YteamnchoddegpaaGreatDoor
open Go.RowKit Go.Maps
set_option maxHeartbeats 3200000
theorem few_any (w : World) (a1 a2 : Option Addr) (n1 c1 n2 c2 : Nat) : Calls Tryz.prog 6 #[.slice a1 n1 c1, .slice a2 n2 c2, .slice none 0 0] w fun e w' => e = .returned (.bool (decide (n1 ≤ 30 ∧ n2 ≤ 40))) ∧ w = w' := by
  go_enter Tryz.func6, Tryz.ntmps6
  by_cases h1 : n1 ≤ 30
  · have h1' : (n1 : Int) ≤ 30 := by omega
    by_cases h2 : n2 ≤ 40
    · have h2' : (n2 : Int) ≤ 40 := by omega
      rw [decide_eq_true (And.intro h1 h2)]
      go_wp2
      go_ret
      exact ⟨rfl, rfl⟩
    · have h2' : ¬ (n2 : Int) ≤ 40 := by omega
      rw [decide_eq_false (fun h => h2 h.2)]
      go_wp2
      go_ret
      exact ⟨rfl, rfl⟩
  · have h1' : ¬ (n1 : Int) ≤ 30 := by omega
    rw [decide_eq_false (fun h => h1 h.1)]
    go_wp2
    go_ret
    exact ⟨rfl, rfl⟩
theorem lattices_any {w0 wr : World} (hb : Below w0.heap.size w0 wr) (nI : Int) (v : Value) (os : List (Int × Int)) (hv : PairsOf w0 v os) (hn : os.length ≤ 9223372036854775807) (hT : TabOk w0) :
    Calls Tryz.prog 8 #[.int .i64 nI, v] wr fun e w' =>
      (latE nI os = 0 → ∃ lb xb, e = .returned (.tuple #[.pointer (some ⟨lb, 0, none⟩), .pointer (some ⟨xb, 0, none⟩), .bool true]) ∧ LatIs w' lb nI.toNat (latR nI.toNat os) ∧ MatIs w' xb nI.toNat (latR nI.toNat os) ∧ Below w0.heap.size w0 w') ∧
      (latE nI os ≠ 0 → e = .returned (.tuple #[.pointer none, .pointer none, .bool true]) ∧ Below w0.heap.size w0 w') := by
  have H1 := Lib.hid ((Lab.nil hb).lat_new nI v os hv hn hT)
  have HV := Lib.hid hv
  go_enter Tryz.func8, Tryz.ntmps8
  obtain ⟨a, n, c, rfl, hol, -⟩ := hv
  go_wp2_with fail
  go_at_call 24
  refine H1.out.mono ?_
  rintro e w1 ⟨h0, h1⟩
  by_cases he : latE nI os = 0
  · obtain ⟨lb, u, d, rfl, hu, hd, hl⟩ := h0 he
    have hle : nI.toNat ≤ 32 := by
      unfold latE at he
      split at he
      · cases he
      · omega
    have H2 := Lib.hid (hl.ref_new nI _ os HV.out hn)
    have HE := Lib.hid he; have HU := Lib.hid hu; have HLE := Lib.hid hle
    clear h0 h1 he hu hd hl hle
    go_wp2_with fail
    go_at_call 25
    refine H2.out.mono ?_
    rintro e w2 ⟨h2, -⟩
    obtain ⟨xb, rfl, hm, hl⟩ := h2 HE.out
    have HM := Lib.hid hm; have HL := Lib.hid hl
    clear h2 hm hl
    go_wp2
    go_ret3
    exact ⟨fun _ => ⟨lb, xb, rfl, ⟨⟨u, d, HL.out.fn1, HU.out⟩, HLE.out⟩, HM.out, HL.out.below⟩, fun h => absurd HE.out h⟩
  · obtain ⟨rfl, hl⟩ := h1 he
    have H2 := Lib.hid (hl.ref_new nI _ os HV.out hn)
    have HE := Lib.hid he
    obtain ⟨E, hE⟩ : ∃ E, latE nI os = E := ⟨_, rfl⟩
    have HEE := Lib.hid hE
    rw [hE]
    rw [hE] at H2
    clear h0 h1 he hl hE
    go_wp2_with fail
    go_at_call 25
    refine H2.out.mono ?_
    rintro e w2 ⟨-, h2⟩
    obtain ⟨rfl, hl⟩ := h2 (by rw [← HEE.out]; exact HE.out)
    have HL := Lib.hid hl
    clear h2 hl
    go_wp2
    go_ret3
    exact ⟨fun h => absurd h (by first | exact HE.out | (rw [← HEE.out]; exact HE.out)), fun _ => ⟨rfl, HL.out.below⟩⟩
theorem latE_two : latE 2 [(0, 1)] = 0 := by
  have h := latE_rest (n := 2) (os := [(0, 1)]) (by decide) (by decide) (by decide) (by intro p hp; simp at hp; subst hp; unfold badP; decide) (R := latR 2 [(0, 1)]) rfl
  refine h.2.1 ?_ ⟨?_, ?_⟩
  · rintro ⟨i, j, hi, hj, hne, h1, h2⟩
    have hd : ∀ i, i < 2 → ∀ j, j < 2 → i ≠ j → latR 2 [(0, 1)] i j = true → latR 2 [(0, 1)] j i = true → False := by decide
    exact hd i hi j hj hne h1 h2
  · unfold Joins; decide
  · unfold Joins rev; decide
theorem pairs_two (w : World) {b : Nat} (h : w.heap[b]? = some (.cells #[.int .i64 0, .int .i64 1] 93 (0, 0))) : PairsOf w (.slice (some ⟨b, 0, none⟩) 1 1) [(0, 1)] := by
  refine ⟨_, _, _, rfl, rfl, fun i hi => ?_⟩
  obtain rfl : i = 0 := by omega
  exact ⟨b, 0, (0, 1), rfl, rfl, by rw [cell_of_row _ b _ _ _ _ h]; rfl, by rw [cell_of_row _ b _ _ _ _ h]; rfl⟩
theorem two_any (w : World) (hT : TabOk w) : Calls Tryz.prog 17 #[] w fun e w' => ∃ lb, e = .returned (.pointer (some ⟨lb, 0, none⟩)) ∧ LatIs w' lb 2 (latR 2 [(0, 1)]) ∧ Below w.heap.size w w' := by
  have hb := below_new w (.cells #[.int .i64 0, .int .i64 1] 93)
  have hp := pairs_two (w.alloc (.cells #[.int .i64 0, .int .i64 1] 93)) (heap_alloc_new w _)
  have H1 := Lib.hid ((Lab.nil (Below.refl _ (w.alloc (.cells #[.int .i64 0, .int .i64 1] 93)))).lat_new 2 _ _ hp (by decide) (hT.later hb))
  have HB := Lib.hid hb
  clear hp hT hb
  go_enter Tryz.func17, Tryz.ntmps17
  go_wp2_with fail
  go_at_call 24
  refine H1.out.mono ?_
  rintro e w1 ⟨h0, -⟩
  obtain ⟨lb, u, d, rfl, hu, hd, hl⟩ := h0 latE_two
  have HU := Lib.hid hu; have HL := Lib.hid hl
  clear h0 hu hd hl H1
  go_wp2
  go_ret
  exact ⟨lb, rfl, ⟨⟨u, d, HL.out.fn1, HU.out⟩, by decide⟩, HB.out.trans (HL.out.below.mono (by simp))⟩
end Go.Proofs.YteamnchoddegpaaGreatDoor
namespace Go.Proofs.YteamnchoddegpaaGreatDoor
open Go.RowKit Go.Maps
set_option maxHeartbeats 3200000
theorem SliceOf.later {w w' : World} {k : IntKind} {v : Value} {xs : List Int} (h : SliceOf w k v xs) (hw : Below w.heap.size w w') : SliceOf w' k v xs := by
  obtain ⟨a, n, cap, rfl, hl, hc⟩ := h
  refine ⟨a, n, cap, rfl, hl, fun i hi => ?_⟩
  obtain ⟨b, off, rfl, hx⟩ := hc i hi
  exact ⟨b, off, rfl, cell_later hw hx⟩
theorem two_nums {w w' : World} (h : w' = w.alloc (.cells #[.int .i64 0, .int .i64 1] 3)) : SliceOf w' .i64 (.slice (some ⟨w.heap.size, 0, none⟩) 2 2) [0, 1] := by
  subst h
  exact sliceOf_new w .i64 3 [0, 1] 2
theorem twin_two : varTw 2 (latR 2 [(0, 1)]) 0 [0, 1] 2 = 3 ∧ varE 2 0 [0, 1] 2 = 0 ∧ varTw 2 (latR 2 [(0, 1)]) 0 [0, 1] 4 = 4 ∧ varE 2 0 [0, 1] 4 = 0 := by decide
set_option maxRecDepth 100000 in
theorem awake35_any (w : World) (hT : TabOk w) : Calls Tryz.prog 7 #[] w fun e w' => e = .returned (.bool true) ∧ Below w.heap.size w w' := by
  have H1 := Lib.hid (two_any w hT)
  clear hT
  go_enter Tryz.func7, Tryz.ntmps7
  go_wp2_with fail
  go_at_call 17
  refine H1.out.mono ?_
  rintro e w1 ⟨lb, rfl, hl, hb⟩
  have HL := Lib.hid hl; have HB := Lib.hid hb
  clear hl hb H1
  go_wp2_with fail
  go_at_call 18
  refine (tvar_any (HL.out.later (below_new _ _)) 0 (two_nums rfl) 2).mono ?_
  rintro e w2 ⟨rfl, rfl⟩
  rw [twin_two.1, twin_two.2.1]
  have HB2 := Lib.hid (HB.out.trans ((below_new w1 (.cells #[.int .i64 0, .int .i64 1] 3)).mono HB.out.size))
  have HL2 := Lib.hid (HL.out.later (below_new w1 (.cells #[.int .i64 0, .int .i64 1] 3)))
  obtain ⟨w2, hw2⟩ : ∃ w2, w1.alloc (.cells #[.int .i64 0, .int .i64 1] 3) = w2 := ⟨_, rfl⟩
  rw [hw2] at HB2 HL2 ⊢
  clear hw2 HB HL
  go_wp2_with fail
  go_at_call 18
  refine (tvar_any (HL2.out.later (below_new _ _)) 0 (two_nums rfl) 4).mono ?_
  rintro e w3 ⟨rfl, rfl⟩
  rw [twin_two.2.2.1, twin_two.2.2.2]
  have HB3 := Lib.hid (HB2.out.trans ((below_new w2 (.cells #[.int .i64 0, .int .i64 1] 3)).mono HB2.out.size))
  obtain ⟨w3, hw3⟩ : ∃ w3, w2.alloc (.cells #[.int .i64 0, .int .i64 1] 3) = w3 := ⟨_, rfl⟩
  rw [hw3] at HB3 ⊢
  clear hw3 HB2 HL2
  go_wp2
  go_ret
  exact ⟨rfl, HB3.out⟩
theorem ofR_or (n : Nat) (R : Rel) (level : Int) (ls : List Int) (v : Int) : ofR n R level ls v = v ∨ ofR n R level ls v = v + 1 := by unfold ofR; split <;> simp
end Go.Proofs.YteamnchoddegpaaGreatDoor
namespace Go.Proofs.YteamnchoddegpaaGreatDoor
open Go
section
variable {P : Program} {ops : Array Oper} {Q : Exit → Act → World → Prop} {md : Region.Mode} {S : Array Bool → World → Prop}
/-- Whatever comes up next, and what is known of the world behind it. -/
def wpAnyT (P : Program) (md : Region.Mode) (ops : Array Oper) (Q : Exit → Act → World → Prop) (S : Array Bool → World → Prop) : Nat → Array Bool → Act → World → Prop
  | 0, listed, a, w => Region.ready md ops listed = [] ∧ Q .normal a w
  | fuel + 1, listed, a, w =>
    (Region.ready md ops listed = [] → Q .normal a w) ∧
    ∀ i ∈ Region.ready md ops listed, wpOp P ops Q i (fun a' w' => S (listed.setIfInBounds i true) w' ∧ wpAnyT P md ops Q S fuel (listed.setIfInBounds i true) a' w') a w
theorem wpAny_of_T : ∀ (fuel : Nat) (listed : Array Bool) (a : Act) (w : World), wpAnyT P md ops Q S fuel listed a w → wpAny P md ops Q fuel listed a w
  | 0, _, _, _, h => h
  | fuel + 1, _, _, _, h => ⟨h.1, fun i hi => wpOp_mono (fun a' w' h' => wpAny_of_T fuel _ a' w' h'.2) (h.2 i hi)⟩
theorem wpAnyT_first {T : World → Prop} {i : Nat} {oi : Oper} {v : Value} (hi : ops[i]? = some oi) (hsel : ∀ (j : Nat) (o : Oper) cs b, ops[j]? = some o → o.op ≠ .select cs b)
    (hQ : ∀ c a w, Q (.panic c) (a.put oi.dst v) w → Q (.panic c) a w)
    (hT : ∀ listed w, S listed w → i ∈ Region.ready md ops listed → T w)
    (hfwd : ∀ listed w, S listed w → i ∈ Region.ready md ops listed → S (listed.setIfInBounds i true) w)
    (hback : ∀ listed j w w', S listed w → i ∈ Region.ready md ops listed → j ∈ Region.ready md ops listed → j ≠ i → S ((listed.setIfInBounds j true).setIfInBounds i true) w' → S (listed.setIfInBounds j true) w') :
    ∀ (fuel : Nat) (listed : Array Bool) (a : Act) (w : World),
      (∀ j oj, ops[j]? = some oj → j ≠ i → listed.getD j true = false → (∀ e ∈ oj.after, Region.binds md e = true → e.on ≠ i) → oi.apart ops oj = true) →
      i ∈ Region.ready md ops listed → YieldsIf P ops T oi v a → S listed w →
      wpAnyT P md ops Q S fuel (listed.setIfInBounds i true) (a.put oi.dst v) w → wpAnyT P md ops Q S (fuel + 1) listed a w := by
  intro fuel
  induction fuel with
  | zero =>
    intro listed a w _ hr hy hS H
    refine ⟨fun h => absurd (h ▸ hr) (by simp), fun j hj => ?_⟩
    by_cases hji : j = i
    · subst hji
      exact hy.wpOp hi (hT _ _ hS hr) ⟨hfwd _ _ hS hr, H⟩
    · exact absurd (H.1 ▸ ready_mono hj hji) (by simp)
  | succ fuel ih =>
    intro listed a w hfree hr hy hS H
    refine ⟨fun h => absurd (h ▸ hr) (by simp), fun j hj => ?_⟩
    by_cases hji : j = i
    · subst hji
      exact hy.wpOp hi (hT _ _ hS hr) ⟨hfwd _ _ hS hr, H⟩
    · have h1 := H.2 j (ready_mono hj hji)
      obtain ⟨hjun, oj, hoj, hall⟩ := mem_ready.1 hj
      have hiun := (mem_ready.1 hr).1
      have hnot : ∀ e ∈ oj.after, Region.binds md e = true → e.on ≠ i := fun e he hb heq => by
        have h2 := hall e he hb
        rw [heq] at h2
        rw [Array.getD_eq_getD_getElem?] at h2 hiun
        cases hl : listed[i]? with
        | none => rw [hl] at h2; exact absurd h2 (by simp)
        | some b => rw [hl] at h2 hiun; simp only [Option.getD_some] at h2 hiun; rw [h2] at hiun; cases hiun
      have h2 := wpOp_putIf hoj (hfree j oj hoj hji hjun hnot) (fun cs b => hsel i oi cs b hi) (fun cs b => hsel j oj cs b hoj) hQ hy h1
      refine wpOp_mono (fun a' w' h3 => ?_) h2
      obtain ⟨hy', hS', H'⟩ := h3
      rw [Array.setIfInBounds_comm _ _ (Ne.symm hji)] at hS' H'
      have hS'' := hback _ _ _ _ hS hr hj hji hS'
      refine ⟨hS'', ih _ a' w' (fun k ok hk hki hun hno => hfree k ok hk hki ?_ hno) (ready_mono hr (Ne.symm hji)) hy' hS'' H'⟩
      by_cases hjk : j = k
      · subst hjk; exact hjun
      · rwa [getD_set_ne true hjk] at hun
theorem wpAnyT_all {rs : List Nat} {fuel : Nat} {listed : Array Bool} {a : Act} {w : World} (hr : Region.ready md ops listed = rs) (hne : rs ≠ [])
    (h : ∀ i ∈ rs, wpOp P ops Q i (fun a' w' => S (listed.setIfInBounds i true) w' ∧ wpAnyT P md ops Q S fuel (listed.setIfInBounds i true) a' w') a w) : wpAnyT P md ops Q S (fuel + 1) listed a w :=
  ⟨fun h0 => absurd (hr.symm.trans h0) hne, fun i hi => h i (hr ▸ hi)⟩
theorem getD_set_true {listed : Array Bool} {i x : Nat} (h : listed.getD x true = true ∨ x = i) : (listed.setIfInBounds i true).getD x true = true := by
  by_cases e : i = x
  · subst e
    rw [Array.getD_eq_getD_getElem?, Array.getElem?_setIfInBounds]
    simp only [if_true]
    split <;> rfl
  · rw [getD_set_ne true e]
    exact h.resolve_right (Ne.symm e)
theorem getD_of_set {listed : Array Bool} {i x : Nat} (h : (listed.setIfInBounds i true).getD x true = true) (hne : x ≠ i) : listed.getD x true = true := by
  rwa [getD_set_ne true (Ne.symm hne)] at h
theorem wpAnyT_one {i : Nat} {o : Oper} {fuel : Nat} {listed : Array Bool} {a : Act} {w : World} (hr : Region.ready md ops listed = [i]) (ho : ops[i]? = some o)
    (h : ∀ K' : Act → World → Prop, Shut (∀ a w, S (listed.setIfInBounds i true) w → (S (listed.setIfInBounds i true) w → wpAnyT P md ops Q S fuel (listed.setIfInBounds i true) a w) → K' a w) → if Region.wanted o (yielded ops a.tmps) = true then Oper.wp P o a w K' Q else K' (a.put o.dst undef) w) :
    wpAnyT P md ops Q S (fuel + 1) listed a w :=
  wpAnyT_all hr (by simp) fun j hj => by
    obtain rfl := List.mem_singleton.1 hj
    exact wpOp_step ho (fun K' hK => h K' (fun a w hS hW => hK a w ⟨hS, hW hS⟩))
theorem wpAnyT_done {listed : Array Bool} {a : Act} {w : World} (hr : Region.ready md ops listed = []) (h : Q .normal a w) : ∀ fuel, wpAnyT P md ops Q S fuel listed a w
  | 0 => ⟨hr, h⟩
  | _ + 1 => ⟨fun _ => h, by rw [hr]; simp⟩
end
end Go.Proofs.YteamnchoddegpaaGreatDoor
namespace Go.Proofs.YteamnchoddegpaaGreatDoor
open Go
/-- A region, by its number, wherever it stands. -/
def regionBy (id : Nat) : Code → Option Code
  | .region i ops d => if i = id then some (.region i ops d) else none
  | .seq a b => (regionBy id a).or (regionBy id b)
  | .cond _ a b => (regionBy id a).or (regionBy id b)
  | .block _ a => regionBy id a
  | .loop a => regionBy id a
  | _ => none
section
variable {P : Program} {ops : Array Oper} {Q : Exit → Act → World → Prop} {md : Region.Mode} {S : Array Bool → World → Prop}
/-- Until the operation st has come up the world is as T says; by then the loads have come up. -/
def SUpto (T : World → Prop) (st : Nat) (ls : List Nat) (listed : Array Bool) (w : World) : Prop :=
  (listed.getD st true = true ∧ ∀ l ∈ ls, listed.getD l true = true) ∨ (listed.getD st true = false ∧ T w)
theorem wpAnyT_takeU {T : World → Prop} {st : Nat} {ls : List Nat} {i : Nat} {oi : Oper} {v : Value} {fuel : Nat} {listed : Array Bool} {a : Act} {w : World} (hi : ops[i]? = some oi) (hs : Region.noSelect ops = true) (hf : Region.free md ops listed i = true) (hr : (Region.ready md ops listed).contains i = true)
    (hst : i ≠ st) (hk : i ∈ ls → Region.waitsFor md ops st i = true) (hQ : ∀ c a w, Q (.panic c) (a.put oi.dst v) w → Q (.panic c) a w) (hy : YieldsIf P ops (fun w => i ∈ ls → T w) oi v a) (hS : SUpto T st ls listed w)
    (h : SUpto T st ls (listed.setIfInBounds i true) w → wpAnyT P md ops Q (SUpto T st ls) fuel (listed.setIfInBounds i true) (a.put oi.dst v) w) : wpAnyT P md ops Q (SUpto T st ls) (fuel + 1) listed a w := by
  have fwd : ∀ listed w, SUpto T st ls listed w → SUpto T st ls (listed.setIfInBounds i true) w := by
    rintro listed w (⟨h1, h2⟩ | ⟨h1, h2⟩)
    · exact .inl ⟨getD_set_true (.inl h1), fun l hl => getD_set_true (.inl (h2 l hl))⟩
    · exact .inr ⟨by rw [getD_set_ne true hst]; exact h1, h2⟩
  refine wpAnyT_first hi (Region.noSelect_spec hs) hQ ?_ (fun listed w hS _ => fwd listed w hS) ?_ fuel listed a w (Region.free_spec hi hf) (by simpa using hr) hy hS (h (fwd _ _ hS))
  · rintro listed w (⟨h1, h2⟩ | ⟨h1, h2⟩) hr' hil
    · have := (mem_ready.1 hr').1
      rw [h2 i hil] at this
      cases this
    · exact h2
  · rintro listed j w w' hS hr' hj hji hS'
    have hiun := (mem_ready.1 hr').1
    rcases hS with ⟨h1, h2⟩ | ⟨h1, h2⟩
    · exact .inl ⟨getD_set_true (.inl h1), fun l hl => getD_set_true (.inl (h2 l hl))⟩
    · by_cases hjs : j = st
      · subst hjs
        by_cases hil : i ∈ ls
        · obtain ⟨oj, hoj, e, he, hb, heq⟩ := Region.waitsFor_spec (hk hil)
          obtain ⟨_, oj', hoj', hall⟩ := mem_ready.1 hj
          rw [hoj] at hoj'
          cases hoj'
          have h3 := hall e he hb
          rw [heq] at h3
          rw [Array.getD_eq_getD_getElem?] at h3 hiun
          cases hl : listed[i]? with
          | none => rw [hl] at h3; exact absurd h3 (by simp)
          | some b => rw [hl] at h3 hiun; simp only [Option.getD_some] at h3 hiun; rw [h3] at hiun; cases hiun
        · rcases hS' with ⟨_, k2⟩ | ⟨k1, _⟩
          · exact .inl ⟨getD_set_true (.inr rfl), fun l hl => getD_of_set (k2 l hl) (fun e => hil (e ▸ hl))⟩
          · rw [getD_set_true (.inl (getD_set_true (.inr rfl)))] at k1
            cases k1
      · have hu : ((listed.setIfInBounds j true).setIfInBounds i true).getD st true = false := by rw [getD_set_ne true hst, getD_set_ne true hjs]; exact h1
        rcases hS' with ⟨k1, _⟩ | ⟨_, k2⟩
        · rw [hu] at k1; cases k1
        · exact .inr ⟨by rw [getD_set_ne true hjs]; exact h1, k2⟩
theorem wpAnyT_two {i j : Nat} {o o' : Oper} {fuel : Nat} {listed : Array Bool} {a : Act} {w : World} (hr : Region.ready md ops listed = [i, j]) (ho : ops[i]? = some o) (ho' : ops[j]? = some o')
    (h : ∀ K' : Act → World → Prop, Shut (∀ a w, S (listed.setIfInBounds i true) w → (S (listed.setIfInBounds i true) w → wpAnyT P md ops Q S fuel (listed.setIfInBounds i true) a w) → K' a w) → if Region.wanted o (yielded ops a.tmps) = true then Oper.wp P o a w K' Q else K' (a.put o.dst undef) w)
    (h' : ∀ K' : Act → World → Prop, Shut (∀ a w, S (listed.setIfInBounds j true) w → (S (listed.setIfInBounds j true) w → wpAnyT P md ops Q S fuel (listed.setIfInBounds j true) a w) → K' a w) → if Region.wanted o' (yielded ops a.tmps) = true then Oper.wp P o' a w K' Q else K' (a.put o'.dst undef) w) :
    wpAnyT P md ops Q S (fuel + 1) listed a w :=
  wpAnyT_all hr (by simp) fun k hk => by
    simp only [List.mem_cons, List.not_mem_nil, or_false] at hk
    rcases hk with rfl | rfl
    · exact wpOp_step ho (fun K' hK => h K' (fun a w hS hW => hK a w ⟨hS, hW hS⟩))
    · exact wpOp_step ho' (fun K' hK => h' K' (fun a w hS hW => hK a w ⟨hS, hW hS⟩))
end
end Go.Proofs.YteamnchoddegpaaGreatDoor
namespace Go.Proofs.YteamnchoddegpaaGreatDoor
open Go.RowKit Go.Maps
set_option maxHeartbeats 3200000
set_option maxRecDepth 100000 in
theorem input_any (w : World) (n c k : Nat) (h2 : n ≤ 32) (hc : c < n) (hk : k < 65536) :
    Calls Tryz.prog 47 #[.int .i64 n, .int .i64 c, .int .i64 k] w fun e w' => e = .returned (.tuple #[.int .i64 (2 * (k * n + c) : Nat), .int .i64 0]) ∧ w = w' := by
  obtain ⟨m, hm⟩ : ∃ m, k * n = m := ⟨_, rfl⟩
  have hmb : m ≤ 65536 * 32 := by rw [← hm]; exact Nat.mul_le_mul (by omega) h2
  have e1 : (k : Int) * (n : Int) = (m : Int) := by rw [← hm]; simp
  have e2 : IntKind.i64.wrap (m : Int) = (m : Int) := by simp [IntKind.wrap, IntKind.bits, IntKind.signed]; omega
  have e3 : IntKind.i64.wrap ((m : Int) + (c : Int)) = (m : Int) + (c : Int) := by simp [IntKind.wrap, IntKind.bits, IntKind.signed]; omega
  have e4 : IntKind.i64.wrap (2 * ((m : Int) + (c : Int))) = 2 * ((m : Int) + (c : Int)) := by simp [IntKind.wrap, IntKind.bits, IntKind.signed]; omega
  have q1 : ¬ (n : Int) < 1 := by omega
  have q2 : ¬ (32 : Int) < (n : Int) := by omega
  have q3 : ¬ (n : Int) ≤ (c : Int) := by omega
  have q4 : ¬ (65536 : Int) ≤ (k : Int) := by omega
  have q5 : ¬ (c : Int) < 0 := by omega
  have q6 : ¬ (k : Int) < 0 := by omega
  rw [hm, show ((2 * (m + c) : Nat) : Int) = 2 * ((m : Int) + (c : Int)) by omega]
  clear hm hmb h2 hc hk
  go_enter Tryz.func47, Tryz.ntmps47
  go_wp2
  go_ret2
  exact ⟨rfl, rfl⟩
/-- The value of a variable. -/
def valAt (vals : List Int) (n : Nat) : Int := vals.getD n 0
set_option maxRecDepth 100000 in
theorem value1_any {w : World} {v : Value} {vals : List Int} {p : Nat} (hs : SliceOf w .u64 v vals) (hp : w.cell? ⟨p, 0, none⟩ = some v) (n : Nat) :
    Calls Tryz.prog 45 #[.int .i64 n, .pointer (some ⟨p, 0, none⟩)] w fun e w' => e = .returned (.int .u64 (valAt vals n)) ∧ w = w' := by
  obtain ⟨ao, no, co, rfl, hol, -⟩ := hs.parts
  have HS := Lib.hid hs
  clear hs
  by_cases h : n < no
  · obtain ⟨b, off, x, rfl, hc, hx⟩ := HS.out.parts' h
    have hv : valAt vals n = x := by unfold valAt; rw [List.getD_eq_getElem?_getD, hx]; rfl
    rw [hv]
    have q2 : (n : Int) < (no : Int) := by omega
    have q3 : (0 : Int) ≤ (n : Int) := by omega
    clear hx hv h HS hol
    go_enter Tryz.func45, Tryz.ntmps45
    go_wp2
    go_ret
    exact ⟨rfl, rfl⟩
  · have hv : valAt vals n = 0 := by unfold valAt; rw [List.getD_eq_getElem?_getD, List.getElem?_eq_none (by omega)]; rfl
    rw [hv]
    have q1 : ¬ (n : Int) < (no : Int) := by omega
    clear hv h HS hol
    go_enter Tryz.func45, Tryz.ntmps45
    go_wp2
    go_ret
    exact ⟨rfl, rfl⟩
end Go.Proofs.YteamnchoddegpaaGreatDoor
