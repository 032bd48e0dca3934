/- LatF, LatG, LatH, Lists: joined by wip/bundle.py. -/
import Derived.Test.YteamnchoddegpaaGreatDoorB1
import Derived.Test.YteamnchoddegpaaGreatDoorB2
import Derived.Test.YteamnchoddegpaaGreatDoorB3
import Derived.Test.YteamnchoddegpaaGreatDoorB4
import Derived.Test.YteamnchoddegpaaGreatDoorB5
import Derived.Test.YteamnchoddegpaaGreatDoorB6
import Derived.Test.YteamnchoddegpaaGreatDoorB7
import Derived.Test.YteamnchoddegpaaGreatDoorB8
import Derived.Test.YteamnchoddegpaaGreatDoorB9
import Derived.Test.YteamnchoddegpaaGreatDoorB10
import Derived.Test.YteamnchoddegpaaGreatDoorB11
import Derived.Test.YteamnchoddegpaaGreatDoorB12
import Derived.Test.YteamnchoddegpaaGreatDoorB13
import Derived.Test.YteamnchoddegpaaGreatDoorB14
import Derived.Test.YteamnchoddegpaaGreatDoorB15
import Derived.Test.YteamnchoddegpaaGreatDoorB16
import Derived.Test.YteamnchoddegpaaGreatDoorB17
import Derived.Test.YteamnchoddegpaaGreatDoorB18
import Derived.Test.YteamnchoddegpaaGreatDoorB19
import Derived.BigQuiet
import Derived.StillTailTactics
import Derived.OrdersHeld
import Derived.StillTail
import Derived.Deep.RegionHeld3
import Derived.Laws.EntriesVeiled
namespace Go.Proofs.YteamnchoddegpaaGreatDoor
open Go.RowKit Go.Maps
set_option maxHeartbeats 3200000
def rowV (n : Nat) (b : Nat) : Value := .slice (some ⟨b, 0, none⟩) n n
/-- A matrix in memory, with its rows' blocks. -/
structure MatAt (w : World) (xb n : Nat) (R : Rel) (g cap : Nat) (bs : Nat → Nat) : Prop where
  le : n ≤ 32
  top : w.cell? ⟨xb, 0, none⟩ = some (.slice (some ⟨g, 0, none⟩) n cap)
  rows : ∀ {i}, i < n → w.cell? ⟨g, i, none⟩ = some (.slice (some ⟨bs i, 0, none⟩) n n)
  cell : ∀ {i j}, i < n → j < n → w.cell? ⟨bs i, j, none⟩ = some (.bool (R i j))
def MatIs (w : World) (xb n : Nat) (R : Rel) : Prop := ∃ g cap bs, MatAt w xb n R g cap bs
theorem MatIs.later {w w' : World} {xb n : Nat} {R : Rel} (h : MatIs w xb n R) (hb : Below w.heap.size w w') : MatIs w' xb n R := by
  obtain ⟨g, cap, bs, hM⟩ := h
  exact ⟨g, cap, bs, hM.le, cell_later hb hM.top, fun hi => cell_later hb (hM.rows hi), fun hi hj => cell_later hb (hM.cell hi hj)⟩
section
variable {w : World} {xb n : Nat} {R : Rel}
/-- What Join returns. -/
def JoinB (n : Nat) (R : Rel) (a b c : Nat) : Prop := R a c = true ∧ R b c = true ∧ ∀ d, d < n → R a d = true → R b d = true → R c d = true
def JoinE (n : Nat) (R : Rel) (a b : Nat) : Prop := ∃ c, c < n ∧ JoinB n R a b c
set_option maxRecDepth 100000 in
theorem rjoin_any (h : MatIs w xb n R) (a b : Nat) (ha : a < n) (hb : b < n) :
    Calls Tryz.prog 53 #[.pointer (some ⟨xb, 0, none⟩), .int .i64 a, .int .i64 b] w fun e w' => ∃ r : Int, e = .returned (.int .i64 r) ∧ (r < 0 ↔ ¬ JoinE n R a b) ∧ w = w' := by
  obtain ⟨g, cap, bs, hM⟩ := h
  have c0 := hM.top
  have hn32 := hM.le
  go_enter Tryz.func53, Tryz.ntmps53
  go_wp2
  go_loopw [7] (fun v wx => ∃ c : Nat, c ≤ n ∧ v = .int .i64 c ∧ (∀ c', c' < c → ¬ JoinB n R a b c') ∧ w = wx) (fun v _ => n - (intOf v).toNat)
  case atStart => exact ⟨0, by omega, rfl, fun c' h => by omega, rfl⟩
  case round =>
    obtain ⟨c, hcn, rfl, hall, rfl⟩ := hrel
    have HALL := Lib.hid hall
    clear hall
    by_cases hc : c < n
    · have hc' : (c : Int) < (n : Int) := by omega
      have ha' : (a : Int) < (n : Int) := by omega
      have hb' : (b : Int) < (n : Int) := by omega
      have ha0 : (0 : Int) ≤ (a : Int) := by omega
      have hb0 : (0 : Int) ≤ (b : Int) := by omega
      have hc0 : (0 : Int) ≤ (c : Int) := by omega
      have ra := hM.rows ha
      have rb := hM.rows hb
      have rc := hM.rows hc
      have dac := hM.cell ha hc
      have dbc := hM.cell hb hc
      go_upto_region 4 with fail
      go_cut [8] (fun v wx => (∃ B : Bool, v = .bool B ∧ (B = true ↔ (R a c = true ∧ R b c = true))) ∧ w = wx)
      case first =>
        cases h1 : R a c with
        | true =>
          cases h2 : R b c with
          | true =>
            rw [h1] at dac
            rw [h2] at dbc
            have H12 := Lib.hid (And.intro h1 h2)
            clear h1 h2
            go_wp2
            go_meet
            exact ⟨⟨true, rfl, fun _ => H12.out, fun _ => rfl⟩, rfl⟩
          | false =>
            rw [h1] at dac
            rw [h2] at dbc
            have H2 := Lib.hid h2
            clear h1 h2
            go_wp2
            go_meet
            exact ⟨⟨false, rfl, fun h => absurd h (by simp), fun h => absurd h.2 (by rw [H2.out]; simp)⟩, rfl⟩
        | false =>
          rw [h1] at dac
          have H1 := Lib.hid h1
          clear h1
          go_wp2
          go_meet
          exact ⟨⟨false, rfl, fun h => absurd h (by simp), fun h => absurd h.1 (by rw [H1.out]; simp)⟩, rfl⟩
      case rest =>
        obtain ⟨⟨B, rfl, hB⟩, rfl⟩ := hcut
        have HB := Lib.hid hB
        clear hB dac dbc
        go_wp2
        go_loopw [8, 9] (fun v i wx => ∃ (d : Nat) (B : Bool), d ≤ n ∧ v = .bool B ∧ i = .int .i64 d ∧ (B = true ↔ ((R a c = true ∧ R b c = true) ∧ ∀ d', d' < d → R a d' = true → R b d' = true → R c d' = true)) ∧ w = wx) (fun _ i _ => n - (intOf i).toNat)
        case atStart => exact ⟨0, B, by omega, rfl, rfl, by rw [HB.out]; simp, rfl⟩
        case round =>
          clear HB
          obtain ⟨d, B2, hdn, rfl, rfl, hB, rfl⟩ := hrel
          have HB := Lib.hid hB
          clear hB
          cases B2 with
          | false =>
            have HN := Lib.hid (show ¬ JoinB n R a b c from fun h => Bool.false_ne_true (HB.out.2 ⟨⟨h.1, h.2.1⟩, fun d' hd' => h.2.2 d' (by omega)⟩))
            by_cases hd : d < n
            · have hd' : (d : Int) < (n : Int) := by omega
              go_wp2
              go_roundw
              case rel => exact ⟨c + 1, by omega, by go_num, fun c' hc' => (by by_cases e : c' = c; (· subst e; exact HN.out); (· exact HALL.out c' (by omega))), by trivial⟩
              case measure => simp [intOf]; omega
            · have hd' : ¬ (d : Int) < (n : Int) := by omega
              go_wp2
              go_roundw
              case rel => exact ⟨c + 1, by omega, by go_num, fun c' hc' => (by by_cases e : c' = c; (· subst e; exact HN.out); (· exact HALL.out c' (by omega))), by trivial⟩
              case measure => simp [intOf]; omega
          | true =>
            have HT := Lib.hid (HB.out.1 rfl)
            clear HB
            by_cases hd : d < n
            · have hd' : (d : Int) < (n : Int) := by omega
              have hd0 : (0 : Int) ≤ (d : Int) := by omega
              have rd := hM.rows hd
              have dcd := hM.cell hc hd
              have dad := hM.cell ha hd
              have dbd := hM.cell hb hd
              have HN := Lib.hid (show ∀ B : Bool, (B = true ↔ (R a d = true → R b d = true → R c d = true)) → (B = true ↔ ((R a c = true ∧ R b c = true) ∧ ∀ d', d' < d + 1 → R a d' = true → R b d' = true → R c d' = true)) from fun B hB => by
                rw [hB]
                exact ⟨fun h => ⟨HT.out.1, fun d' hd' => (by by_cases e : d' = d; (· subst e; exact h); (· exact HT.out.2 d' (by omega)))⟩, fun h => h.2 d (by omega)⟩)
              clear HT
              cases h1 : R c d with
              | true =>
                rw [h1] at dcd HN
                clear h1
                go_wp2
                go_roundw
                case rel => exact ⟨d + 1, true, by omega, rfl, by go_num, HN.out true (by simp), by trivial⟩
                case measure => simp [intOf]; omega
              | false =>
                rw [h1] at dcd HN
                clear h1
                cases h2 : R a d with
                | false =>
                  rw [h2] at dad HN
                  clear h2
                  go_wp2
                  go_roundw
                  case rel => exact ⟨d + 1, true, by omega, rfl, by go_num, HN.out true (by simp), by trivial⟩
                  case measure => simp [intOf]; omega
                | true =>
                  rw [h2] at dad HN
                  clear h2
                  cases h3 : R b d with
                  | false =>
                    rw [h3] at dbd HN
                    clear h3
                    go_wp2
                    go_roundw
                    case rel => exact ⟨d + 1, true, by omega, rfl, by go_num, HN.out true (by simp), by trivial⟩
                    case measure => simp [intOf]; omega
                  | true =>
                    rw [h3] at dbd HN
                    clear h3
                    go_wp2
                    go_roundw
                    case rel => exact ⟨d + 1, false, by omega, rfl, by go_num, HN.out false (by simp), by trivial⟩
                    case measure => simp [intOf]; omega
            · have hd' : ¬ (d : Int) < (n : Int) := by omega
              have HY := Lib.hid (show JoinB n R a b c from ⟨HT.out.1.1, HT.out.1.2, fun d' hd' => HT.out.2 d' (by omega)⟩)
              go_wp2
              go_ret
              exact ⟨(c : Int), rfl, ⟨fun h => absurd h (by omega), fun h => absurd ⟨c, hc, HY.out⟩ h⟩, rfl⟩
    · have HN := Lib.hid (show ¬ JoinE n R a b from fun ⟨c', h1, h2⟩ => HALL.out c' (by omega) h2)
      go_wp2
      go_ret
      exact ⟨-1, rfl, ⟨fun _ => HN.out, fun _ => by omega⟩, rfl⟩
/-- What Meet returns. -/
def MeetB (n : Nat) (R : Rel) (a b c : Nat) : Prop := R c a = true ∧ R c b = true ∧ ∀ d, d < n → R d a = true → R d b = true → R d c = true
def MeetE (n : Nat) (R : Rel) (a b : Nat) : Prop := ∃ c, c < n ∧ MeetB n R a b c
set_option maxRecDepth 100000 in
theorem rmeet_any (h : MatIs w xb n R) (a b : Nat) (ha : a < n) (hb : b < n) :
    Calls Tryz.prog 54 #[.pointer (some ⟨xb, 0, none⟩), .int .i64 a, .int .i64 b] w fun e w' => ∃ r : Int, e = .returned (.int .i64 r) ∧ (r < 0 ↔ ¬ MeetE n R a b) ∧ w = w' := by
  obtain ⟨g, cap, bs, hM⟩ := h
  have c0 := hM.top
  have hn32 := hM.le
  go_enter Tryz.func54, Tryz.ntmps54
  go_wp2
  go_loopw [7] (fun v wx => ∃ c : Nat, c ≤ n ∧ v = .int .i64 c ∧ (∀ c', c' < c → ¬ MeetB n R a b c') ∧ w = wx) (fun v _ => n - (intOf v).toNat)
  case atStart => exact ⟨0, by omega, rfl, fun c' h => by omega, rfl⟩
  case round =>
    obtain ⟨c, hcn, rfl, hall, rfl⟩ := hrel
    have HALL := Lib.hid hall
    clear hall
    by_cases hc : c < n
    · have hc' : (c : Int) < (n : Int) := by omega
      have ha' : (a : Int) < (n : Int) := by omega
      have hb' : (b : Int) < (n : Int) := by omega
      have ha0 : (0 : Int) ≤ (a : Int) := by omega
      have hb0 : (0 : Int) ≤ (b : Int) := by omega
      have hc0 : (0 : Int) ≤ (c : Int) := by omega
      have ra := hM.rows ha
      have rb := hM.rows hb
      have rc := hM.rows hc
      have dac := hM.cell hc ha
      have dbc := hM.cell hc hb
      go_upto_region 4 with fail
      go_cut [8] (fun v wx => (∃ B : Bool, v = .bool B ∧ (B = true ↔ (R c a = true ∧ R c b = true))) ∧ w = wx)
      case first =>
        cases h1 : R c a with
        | true =>
          cases h2 : R c b with
          | true =>
            rw [h1] at dac
            rw [h2] at dbc
            have H12 := Lib.hid (And.intro h1 h2)
            clear h1 h2
            go_wp2
            go_meet
            exact ⟨⟨true, rfl, fun _ => H12.out, fun _ => rfl⟩, rfl⟩
          | false =>
            rw [h1] at dac
            rw [h2] at dbc
            have H2 := Lib.hid h2
            clear h1 h2
            go_wp2
            go_meet
            exact ⟨⟨false, rfl, fun h => absurd h (by simp), fun h => absurd h.2 (by rw [H2.out]; simp)⟩, rfl⟩
        | false =>
          rw [h1] at dac
          have H1 := Lib.hid h1
          clear h1
          go_wp2
          go_meet
          exact ⟨⟨false, rfl, fun h => absurd h (by simp), fun h => absurd h.1 (by rw [H1.out]; simp)⟩, rfl⟩
      case rest =>
        obtain ⟨⟨B, rfl, hB⟩, rfl⟩ := hcut
        have HB := Lib.hid hB
        clear hB dac dbc
        go_wp2
        go_loopw [8, 9] (fun v i wx => ∃ (d : Nat) (B : Bool), d ≤ n ∧ v = .bool B ∧ i = .int .i64 d ∧ (B = true ↔ ((R c a = true ∧ R c b = true) ∧ ∀ d', d' < d → R d' a = true → R d' b = true → R d' c = true)) ∧ w = wx) (fun _ i _ => n - (intOf i).toNat)
        case atStart => exact ⟨0, B, by omega, rfl, rfl, by rw [HB.out]; simp, rfl⟩
        case round =>
          clear HB
          obtain ⟨d, B2, hdn, rfl, rfl, hB, rfl⟩ := hrel
          have HB := Lib.hid hB
          clear hB
          cases B2 with
          | false =>
            have HN := Lib.hid (show ¬ MeetB n R a b c from fun h => Bool.false_ne_true (HB.out.2 ⟨⟨h.1, h.2.1⟩, fun d' hd' => h.2.2 d' (by omega)⟩))
            by_cases hd : d < n
            · have hd' : (d : Int) < (n : Int) := by omega
              go_wp2
              go_roundw
              case rel => exact ⟨c + 1, by omega, by go_num, fun c' hc' => (by by_cases e : c' = c; (· subst e; exact HN.out); (· exact HALL.out c' (by omega))), by trivial⟩
              case measure => simp [intOf]; omega
            · have hd' : ¬ (d : Int) < (n : Int) := by omega
              go_wp2
              go_roundw
              case rel => exact ⟨c + 1, by omega, by go_num, fun c' hc' => (by by_cases e : c' = c; (· subst e; exact HN.out); (· exact HALL.out c' (by omega))), by trivial⟩
              case measure => simp [intOf]; omega
          | true =>
            have HT := Lib.hid (HB.out.1 rfl)
            clear HB
            by_cases hd : d < n
            · have hd' : (d : Int) < (n : Int) := by omega
              have hd0 : (0 : Int) ≤ (d : Int) := by omega
              have rd := hM.rows hd
              have dcd := hM.cell hd hc
              have dad := hM.cell hd ha
              have dbd := hM.cell hd hb
              have HN := Lib.hid (show ∀ B : Bool, (B = true ↔ (R d a = true → R d b = true → R d c = true)) → (B = true ↔ ((R c a = true ∧ R c b = true) ∧ ∀ d', d' < d + 1 → R d' a = true → R d' b = true → R d' c = true)) from fun B hB => by
                rw [hB]
                exact ⟨fun h => ⟨HT.out.1, fun d' hd' => (by by_cases e : d' = d; (· subst e; exact h); (· exact HT.out.2 d' (by omega)))⟩, fun h => h.2 d (by omega)⟩)
              clear HT
              cases h1 : R d c with
              | true =>
                rw [h1] at dcd HN
                clear h1
                go_wp2
                go_roundw
                case rel => exact ⟨d + 1, true, by omega, rfl, by go_num, HN.out true (by simp), by trivial⟩
                case measure => simp [intOf]; omega
              | false =>
                rw [h1] at dcd HN
                clear h1
                cases h2 : R d a with
                | false =>
                  rw [h2] at dad HN
                  clear h2
                  go_wp2
                  go_roundw
                  case rel => exact ⟨d + 1, true, by omega, rfl, by go_num, HN.out true (by simp), by trivial⟩
                  case measure => simp [intOf]; omega
                | true =>
                  rw [h2] at dad HN
                  clear h2
                  cases h3 : R d b with
                  | false =>
                    rw [h3] at dbd HN
                    clear h3
                    go_wp2
                    go_roundw
                    case rel => exact ⟨d + 1, true, by omega, rfl, by go_num, HN.out true (by simp), by trivial⟩
                    case measure => simp [intOf]; omega
                  | true =>
                    rw [h3] at dbd HN
                    clear h3
                    go_wp2
                    go_roundw
                    case rel => exact ⟨d + 1, false, by omega, rfl, by go_num, HN.out false (by simp), by trivial⟩
                    case measure => simp [intOf]; omega
            · have hd' : ¬ (d : Int) < (n : Int) := by omega
              have HY := Lib.hid (show MeetB n R a b c from ⟨HT.out.1.1, HT.out.1.2, fun d' hd' => HT.out.2 d' (by omega)⟩)
              go_wp2
              go_ret
              exact ⟨(c : Int), rfl, ⟨fun h => absurd h (by omega), fun h => absurd ⟨c, hc, HY.out⟩ h⟩, rfl⟩
    · have HN := Lib.hid (show ¬ MeetE n R a b from fun ⟨c', h1, h2⟩ => HALL.out c' (by omega) h2)
      go_wp2
      go_ret
      exact ⟨-1, rfl, ⟨fun _ => HN.out, fun _ => by omega⟩, rfl⟩
end
end Go.Proofs.YteamnchoddegpaaGreatDoor
namespace Go.Proofs.YteamnchoddegpaaGreatDoor
open Go.RowKit Go.Maps
set_option maxHeartbeats 3200000
section
variable {w : World} {xb n : Nat} {R : Rel}
theorem ris_any (h : MatIs w xb n R) (a : Int) : Calls Tryz.prog 88 #[.pointer (some ⟨xb, 0, none⟩), .int .i64 a] w fun e w' => e = .returned (.bool (decide (lvl n a))) ∧ w = w' := by
  obtain ⟨g, cap, bs, hM⟩ := h
  have c0 := hM.top
  clear hM
  go_enter Tryz.func88, Tryz.ntmps88
  by_cases h1 : 0 ≤ a
  · by_cases h2 : a < (n : Int)
    · have e : decide (lvl n a) = true := decide_eq_true ⟨h1, h2⟩
      rw [e]
      clear e
      go_wp2
      go_ret
      exact ⟨rfl, rfl⟩
    · have e : decide (lvl n a) = false := decide_eq_false fun h => h2 h.2
      rw [e]
      clear e
      go_wp2
      go_ret
      exact ⟨rfl, rfl⟩
  · have e : decide (lvl n a) = false := decide_eq_false fun h => h1 h.1
    rw [e]
    clear e
    go_wp2
    go_ret
    exact ⟨rfl, rfl⟩
theorem rle_any (h : MatIs w xb n R) (a b : Int) : Calls Tryz.prog 74 #[.pointer (some ⟨xb, 0, none⟩), .int .i64 a, .int .i64 b] w fun e w' => e = .returned (.bool (leB n R a b)) ∧ w = w' := by
  have H1 := Lib.hid (ris_any h a); have H2 := Lib.hid (ris_any h b)
  obtain ⟨g, cap, bs, hM⟩ := h
  go_enter Tryz.func74, Tryz.ntmps74
  by_cases h1 : lvl n a
  · rw [decide_eq_true h1] at H1
    by_cases h2 : lvl n b
    · rw [decide_eq_true h2] at H2
      obtain ⟨i, rfl⟩ := Int.eq_ofNat_of_zero_le h1.1
      obtain ⟨j, rfl⟩ := Int.eq_ofNat_of_zero_le h2.1
      have hi : i < n := by have := h1.2; omega
      have hj : j < n := by have := h2.2; omega
      have hB : leB n R (i : Int) (j : Int) = R i j := by unfold leB; rw [decide_eq_true h1, decide_eq_true h2]; simp
      rw [hB]
      have c0 := hM.top
      have c1 := hM.rows hi
      have c2 := hM.cell hi hj
      obtain ⟨B, hRB⟩ : ∃ B, R i j = B := ⟨_, rfl⟩
      rw [hRB] at c2 ⊢
      have hi0 : (0 : Int) ≤ (i : Int) := by omega
      have hj0 : (0 : Int) ≤ (j : Int) := by omega
      have hi' : (i : Int) < (n : Int) := by omega
      have hj' : (j : Int) < (n : Int) := by omega
      clear hM hRB hB h1 h2 hi hj
      go_wp2_with fail
      go_at_call 88
      refine H1.out.mono ?_
      rintro e w1 ⟨rfl, rfl⟩
      go_wp2_with fail
      go_at_call 88
      refine H2.out.mono ?_
      rintro e w1 ⟨rfl, rfl⟩
      go_wp2
      go_ret
      exact ⟨rfl, rfl⟩
    · rw [decide_eq_false h2] at H2
      have hB : leB n R a b = false := by unfold leB; rw [decide_eq_false h2]; simp
      rw [hB]
      clear hB hM h1 h2
      go_wp2_with fail
      go_at_call 88
      refine H1.out.mono ?_
      rintro e w1 ⟨rfl, rfl⟩
      go_wp2_with fail
      go_at_call 88
      refine H2.out.mono ?_
      rintro e w1 ⟨rfl, rfl⟩
      go_wp2
      go_ret
      exact ⟨rfl, rfl⟩
  · rw [decide_eq_false h1] at H1
    have hB : leB n R a b = false := by unfold leB; rw [decide_eq_false h1]; simp
    rw [hB]
    clear hB hM h1 H2
    go_wp2_with fail
    go_at_call 88
    refine H1.out.mono ?_
    rintro e w1 ⟨rfl, rfl⟩
    go_wp2
    go_ret
    exact ⟨rfl, rfl⟩
set_option maxRecDepth 100000 in
theorem known_any (h : MatIs w xb n R) (level : Int) {v : Value} {ls : List Int} (hs : SliceOf w .i64 v ls) (hn1 : ls.length ≤ 1000000) :
    Calls Tryz.prog 39 #[.pointer (some ⟨xb, 0, none⟩), .int .i64 level, v] w fun e w' => ∃ B : Bool, e = .returned (.bool B) ∧ (B = true ↔ (lvl n level ∧ ∀ c ∈ ls, lvl n c)) ∧ Below w.heap.size w w' := by
  obtain ⟨g, cap, bs, hM⟩ := h
  have c0 := hM.top
  have hn32 := hM.le
  obtain ⟨ao, no, co, rfl, hol, hoc⟩ := hs.parts
  have HC := Lib.hid c0; have HS := Lib.hid hs
  clear hM hs hoc
  go_enter Tryz.func39, Tryz.ntmps39
  go_upto_region 1 with fail
  go_cut [7] (fun v wx => (∃ B : Bool, v = .bool B ∧ (B = true ↔ lvl n level)) ∧ w = wx)
  case first =>
    by_cases h1 : 0 ≤ level
    · by_cases h2 : level < (n : Int)
      · go_wp2
        go_meet
        exact ⟨⟨true, rfl, fun _ => ⟨h1, h2⟩, fun _ => rfl⟩, rfl⟩
      · go_wp2
        go_meet
        exact ⟨⟨false, rfl, fun h => absurd h (by simp), fun h => by have := h.2; omega⟩, rfl⟩
    · go_wp2
      go_meet
      exact ⟨⟨false, rfl, fun h => absurd h (by simp), fun h => by have := h.1; omega⟩, rfl⟩
  case rest =>
    obtain ⟨⟨B, rfl, hB⟩, rfl⟩ := hcut
    have HB := Lib.hid hB
    clear hB c0
    go_wp2
    go_loopw [7, 8] (fun v i wx => ∃ (k : Nat) (B : Bool), k ≤ no ∧ v = .bool B ∧ i = .int .i64 k ∧ (B = true ↔ (lvl n level ∧ ∀ i c, i < k → ls[i]? = some c → lvl n c)) ∧ Below w.heap.size w wx) (fun _ i _ => no - (intOf i).toNat)
    case atStart => exact ⟨0, B, by omega, rfl, rfl, by rw [HB.out]; simp, Below.refl _ _⟩
    case round =>
      clear HB
      obtain ⟨k, B2, hk, rfl, rfl, hB, hb⟩ := hrel
      have HB := Lib.hid hB; have HW := Lib.hid hb
      clear hB
      have c0 : ∀ q, (wr.drewN q).cell? ⟨xb, 0, none⟩ = some (.slice (some ⟨g, 0, none⟩) n cap) := fun q => cell_later (below_drewN hb q) HC.out
      by_cases hlt : k < no
      · have hlt' : (k : Int) < (no : Int) := by omega
        have hk0 : (0 : Int) ≤ (k : Int) := by omega
        obtain ⟨b, off, c, rfl, d0, hck⟩ := HS.out.parts' hlt
        have d1 : ∀ q, (wr.drewN q).cell? ⟨b, off + k, none⟩ = some (.int .i64 c) := fun q => cell_later (below_drewN hb q) d0
        have HN := Lib.hid (show ∀ B3 : Bool, (B3 = true ↔ (B2 = true ∧ lvl n c)) → (B3 = true ↔ (lvl n level ∧ ∀ i c, i < k + 1 → ls[i]? = some c → lvl n c)) from fun B3 h3 => by
          rw [h3, HB.out]
          refine ⟨fun h => ⟨h.1.1, fun i c' hi hc' => ?_⟩, fun h => ⟨⟨h.1, fun i c' hi hc' => h.2 i c' (by omega) hc'⟩, h.2 k c (by omega) hck⟩⟩
          by_cases e : i = k
          · subst e; rw [hck] at hc'; obtain rfl := Option.some.inj hc'; exact h.2
          · exact h.1.2 i c' (by omega) hc')
        clear HB hck d0 hb
        cases B2 with
        | false =>
          go_wp2
          go_quiet (fail)
          go_wp2
          go_roundw
          case rel => exact ⟨k + 1, false, by omega, rfl, by go_num, HN.out false (by simp), below_drewN HW.out _⟩
          case measure => simp [intOf]; omega
        | true =>
          have HS := Lib.hid (fun (B3 : Bool) (h : B3 = true ↔ lvl n c) => HN.out B3 ⟨fun h' => ⟨rfl, h.1 h'⟩, fun h' => h.2 h'.2⟩)
          clear HN
          by_cases h1 : 0 ≤ c
          · have e1 : decide (0 ≤ c) = true := decide_eq_true h1
            by_cases h2 : c < (n : Int)
            · have e2 : decide (c < (n : Int)) = true := decide_eq_true h2
              have HT := Lib.hid (HS.out true ⟨fun _ => ⟨h1, h2⟩, fun _ => rfl⟩)
              clear HS h1 h2
              go_wp2
              go_quiet (fail)
              go_wp2
              go_roundw
              case rel => exact ⟨k + 1, true, by omega, rfl, by go_num, ⟨fun _ => HT.out.1 trivial, fun _ => rfl⟩, below_drewN HW.out _⟩
              case measure => simp [intOf]; omega
            · have e2 : decide (c < (n : Int)) = false := decide_eq_false h2
              have HT := Lib.hid (HS.out false ⟨fun h => absurd h (by simp), fun h => absurd h.2 h2⟩)
              clear HS h1 h2
              go_wp2
              go_quiet (fail)
              go_wp2
              go_roundw
              case rel => exact ⟨k + 1, false, by omega, rfl, by go_num, HT.out, below_drewN HW.out _⟩
              case measure => simp [intOf]; omega
          · have e1 : decide (0 ≤ c) = false := decide_eq_false h1
            have HT := Lib.hid (HS.out false ⟨fun h => absurd h (by simp), fun h => absurd h.1 h1⟩)
            clear HS h1
            go_wp2
            go_quiet (fail)
            go_wp2
            go_roundw
            case rel => exact ⟨k + 1, false, by omega, rfl, by go_num, HT.out, below_drewN HW.out _⟩
            case measure => simp [intOf]; omega
      · have HR := Lib.hid (show (B2 = true ↔ (lvl n level ∧ ∀ c ∈ ls, lvl n c)) by
          rw [HB.out]
          refine ⟨fun h => ⟨h.1, fun c hc => ?_⟩, fun h => ⟨h.1, fun i c _ hc => h.2 c (List.mem_of_getElem? hc)⟩⟩
          obtain ⟨i, hi, rfl⟩ := List.getElem_of_mem hc
          exact h.2 i _ (by omega) (List.getElem?_eq_getElem hi))
        clear HB hb
        go_wp2
        go_ret
        exact ⟨B2, rfl, HR.out, HW.out⟩
set_option maxRecDepth 100000 in
theorem check35_any (h : MatIs w xb n R) (level : Int) {v : Value} {ls : List Int} (hs : SliceOf w .i64 v ls) :
    Calls Tryz.prog 11 #[.pointer (some ⟨xb, 0, none⟩), .int .i64 level, v] w fun e w' => e = .returned (.int .i64 (mayE n level ls)) ∧ Below w.heap.size w w' := by
  obtain ⟨ao, no, co, rfl, hol, hoc⟩ := hs.parts
  by_cases h1 : 1 ≤ no ∧ no ≤ 32
  · obtain ⟨h1, h2⟩ := h1
    have HK := Lib.hid (known_any h level hs (by omega))
    have HM := Lib.hid (show ∀ B : Bool, (B = true ↔ (lvl n level ∧ ∀ c ∈ ls, lvl n c)) → mayE n level ls = if B = true then 0 else 3 from fun B hB => by
      unfold mayE
      by_cases hb : B = true
      · rw [if_pos hb, if_pos ⟨by omega, by omega, (hB.1 hb).1, (hB.1 hb).2⟩]
      · rw [if_neg hb, if_neg fun hx => hb (hB.2 hx.2.2)])
    have q1 : ¬ (no : Int) < 1 := by omega
    have q2 : ¬ (32 : Int) < (no : Int) := by omega
    clear hoc hs h h1 h2
    go_enter Tryz.func11, Tryz.ntmps11
    go_wp2_with fail
    go_at_call 39
    refine HK.out.mono ?_
    rintro e w1 ⟨B, rfl, hB, hb⟩
    have HE := Lib.hid (HM.out B hB); have HW := Lib.hid hb
    clear hB hb HM
    cases B with
    | true =>
      go_wp2
      go_ret
      rw [HE.out]
      exact ⟨rfl, HW.out⟩
    | false =>
      go_wp2
      go_ret
      rw [HE.out]
      exact ⟨rfl, HW.out⟩
  · have HM := Lib.hid (show mayE n level ls = 3 by unfold mayE; rw [if_neg]; intro h; exact h1 ⟨by omega, by omega⟩)
    rw [HM.out]
    go_enter Tryz.func11, Tryz.ntmps11
    by_cases h2 : no < 1
    · have h2' : (no : Int) < 1 := by omega
      clear h1
      go_wp2
      go_ret
      exact ⟨rfl, Below.refl _ _⟩
    · have h2' : ¬ (no : Int) < 1 := by omega
      have h3' : (32 : Int) < (no : Int) := by omega
      clear h1
      go_wp2
      go_ret
      exact ⟨rfl, Below.refl _ _⟩
set_option maxRecDepth 100000 in
theorem rvar35_any (h : MatIs w xb n R) (level : Int) {v : Value} {ls : List Int} (hs : SliceOf w .i64 v ls) (m : Int) :
    Calls Tryz.prog 43 #[.pointer (some ⟨xb, 0, none⟩), .int .i64 level, v, .int .i64 m] w fun e w' => e = .returned (.tuple #[.int .i64 (varTw n R level ls m), .int .i64 (varE n level ls m)]) ∧ Below w.heap.size w w' := by
  have H1 := Lib.hid (check35_any h level hs)
  rcases may_cases n level ls with hm | hm
  · rw [hm] at H1
    by_cases h1 : m < 0 ∨ 4194302 < m
    · have hE : varE n level ls m = 3 := by unfold varE; rw [if_neg (by omega), if_pos h1]
      have hN : varTw n R level ls m = 0 := by unfold varTw; rw [if_neg (by omega)]
      rw [hE, hN]
      clear hE hN hm h
      by_cases h2 : m < 0
      · clear h1
        go_enter Tryz.func43, Tryz.ntmps43
        go_wp2_with fail
        go_at_call 11
        refine H1.out.mono ?_
        rintro e w1 ⟨rfl, hb⟩
        have HW := Lib.hid hb
        clear hb
        go_wp2
        go_ret2
        exact ⟨rfl, HW.out⟩
      · have h3 : 4194302 < m := by omega
        clear h1
        go_enter Tryz.func43, Tryz.ntmps43
        go_wp2_with fail
        go_at_call 11
        refine H1.out.mono ?_
        rintro e w1 ⟨rfl, hb⟩
        have HW := Lib.hid hb
        clear hb
        go_wp2
        go_ret2
        exact ⟨rfl, HW.out⟩
    · have h2 : ¬ m < 0 := by omega
      have h3 : ¬ 4194302 < m := by omega
      obtain ⟨mm, rfl⟩ := Int.eq_ofNat_of_zero_le (show 0 ≤ m by omega)
      by_cases h4 : mm % 2 = 1
      · have hE : varE n level ls (mm : Int) = 2 := by unfold varE; rw [if_neg (by omega), if_neg h1, if_pos (by omega)]
        have hN : varTw n R level ls (mm : Int) = 0 := by unfold varTw; rw [if_neg (by omega)]
        rw [hE, hN]
        have q : (mm : Int).tmod 2 = 1 := by rw [Int.tmod_eq_emod_of_nonneg (by omega)]; omega
        clear hE hN hm h h1 h4
        go_enter Tryz.func43, Tryz.ntmps43
        go_wp2_with fail
        go_at_call 11
        refine H1.out.mono ?_
        rintro e w1 ⟨rfl, hb⟩
        have HW := Lib.hid hb
        clear hb
        go_wp2
        go_ret2
        exact ⟨rfl, HW.out⟩
      · have hE : varE n level ls (mm : Int) = 0 := by unfold varE; rw [if_neg (by omega), if_neg h1, if_neg (by omega)]
        have hN : varTw n R level ls (mm : Int) = ofR n R level ls (mm : Int) := by unfold varTw; rw [if_pos hE]
        rw [hE, hN]
        have q : (mm : Int).tmod 2 = 0 := by rw [Int.tmod_eq_emod_of_nonneg (by omega)]; omega
        have hl := (may_len hm).1
        have hl2 := (may_len hm).2.1
        obtain ⟨ao, no, co, rfl, hol, hoc⟩ := hs.parts
        have hi : mm / 2 % no < no := Nat.mod_lt _ (by omega)
        obtain ⟨i, hi'⟩ : ∃ i, mm / 2 % no = i := ⟨_, rfl⟩
        rw [hi'] at hi
        obtain ⟨b, off, c, rfl, d0, hck⟩ := hs.parts' hi
        have hofR : ofR n R level ls (mm : Int) = if leB n R c level = true then (mm : Int) else (mm : Int) + 1 := by
          unfold ofR
          rw [Int.toNat_natCast, show ls.length = no from by omega, hi', List.getD_eq_getElem?_getD, hck]
          rfl
        obtain ⟨f, hf⟩ : ∃ f, mm / 2 = f := ⟨_, rfl⟩
        rw [hf] at hi'
        have q1 : (mm : Int).tdiv 2 = (f : Int) := by rw [Int.tdiv_eq_ediv_of_nonneg (by omega)]; omega
        have q2 : (f : Int).tmod (no : Int) = (i : Int) := by rw [Int.tmod_eq_emod_of_nonneg (by omega), ← hi']; omega
        have hg4 : IntKind.i64.wrap (f : Int) = (f : Int) := by simp [IntKind.wrap, IntKind.bits, IntKind.signed]; omega
        have hi4 : IntKind.i64.wrap (i : Int) = (i : Int) := by simp [IntKind.wrap, IntKind.bits, IntKind.signed]; omega
        have hm4 : IntKind.i64.wrap ((mm : Int) + 1) = (mm : Int) + 1 := by simp [IntKind.wrap, IntKind.bits, IntKind.signed]; omega
        have hno : ¬ (no : Int) = 0 := by omega
        have hi1 : (i : Int) < (no : Int) := by omega
        have hi0 : (0 : Int) ≤ (i : Int) := by omega
        have H2 := Lib.hid (fun w1 (hb : Below w.heap.size w w1) => rle_any (h.later hb) c level)
        have HD := Lib.hid (fun w1 (hb : Below w.heap.size w w1) => cell_later hb d0)
        rw [hofR]
        clear hofR hE hN hm h h1 h4 hs hck hoc hf hi' hl hl2 hi d0
        cases hB : leB n R c level with
        | true =>
          rw [hB] at H2
          clear hB
          go_enter Tryz.func43, Tryz.ntmps43
          go_wp2_with fail
          go_at_call 11
          refine H1.out.mono ?_
          rintro e w1 ⟨rfl, hb⟩
          have HW := Lib.hid hb
          have d1 := HD.out w1 hb
          clear hb
          go_wp2_with fail
          go_at_call 74
          refine (H2.out w1 HW.out).mono ?_
          rintro e w2 ⟨rfl, rfl⟩
          go_wp2
          go_ret2
          exact ⟨rfl, HW.out⟩
        | false =>
          rw [hB] at H2
          clear hB
          go_enter Tryz.func43, Tryz.ntmps43
          go_wp2_with fail
          go_at_call 11
          refine H1.out.mono ?_
          rintro e w1 ⟨rfl, hb⟩
          have HW := Lib.hid hb
          have d1 := HD.out w1 hb
          clear hb
          go_wp2_with fail
          go_at_call 74
          refine (H2.out w1 HW.out).mono ?_
          rintro e w2 ⟨rfl, rfl⟩
          go_wp2
          go_ret2
          exact ⟨rfl, HW.out⟩
  · rw [hm] at H1
    have hE : varE n level ls m = 3 := by unfold varE; rw [if_pos (by omega)]
    have hN : varTw n R level ls m = 0 := by unfold varTw; rw [if_neg (by omega)]
    rw [hE, hN]
    clear hE hN hm h
    go_enter Tryz.func43, Tryz.ntmps43
    go_wp2_with fail
    go_at_call 11
    refine H1.out.mono ?_
    rintro e w1 ⟨rfl, hb⟩
    have HW := Lib.hid hb
    clear hb
    go_wp2
    go_ret2
    exact ⟨rfl, HW.out⟩
end
end Go.Proofs.YteamnchoddegpaaGreatDoor
namespace Go.Proofs.YteamnchoddegpaaGreatDoor
open Go.RowKit Go.Maps
set_option maxHeartbeats 3200000
/-- A matrix in rows of truth values. -/
def Thing.mat (bs : List Nat) (n : Nat) (R : Rel) : Thing :=
  ⟨bs, [], fun w => bs.Nodup ∧ ∀ i b, bs[i]? = some b → w.rowIs b 4 n (fun j => .bool (R i j)), fun _ _ h hk => ⟨h.1, fun i b hb => (h.2 i b hb).of_block (hk b (.inl (List.mem_of_getElem? hb)))⟩⟩
section
variable {w0 wr w' : World} {ts : List Thing} {bs : List Nat} {n : Nat} {R R' : Rel}
theorem Lab.mat_nil (h : Lab w0 wr ts) (n : Nat) (R : Rel) : Lab w0 wr (Thing.mat [] n R :: ts) := by
  refine h.new (s := Thing.mat [] n R) (Below.refl _ _) ⟨List.nodup_nil, fun i b hb => by simp at hb⟩ (fun k hk => ?_) (fun k hk => ?_) (fun k hk => ?_)
  · simp [Thing.mat] at hk
  · simp [Thing.mat] at hk
  · simp [Thing.mat] at hk
theorem Lab.mat_congr (h : Lab w0 wr (Thing.mat bs n R :: ts)) (hR : ∀ i j, i < bs.length → j < n → R' i j = R i j) : Lab w0 wr (Thing.mat bs n R' :: ts) :=
  h.say (s' := Thing.mat bs n R') rfl (fun _ hk => hk) fun hh => ⟨hh.1, fun i b hb => World.rowIs.congr (hh.2 i b hb) fun j hj => by rw [hR i j (List.getElem?_eq_some_iff.1 hb).1 hj]⟩
theorem Lab.mat_row (h : Lab w0 wr (Thing.mat bs n R :: ts)) {i b : Nat} (hb : bs[i]? = some b) : wr.rowIs b 4 n (fun j => .bool (R i j)) := h.head.2 i b hb
theorem Lab.mat_cell (h : Lab w0 wr (Thing.mat bs n R :: ts)) {i b : Nat} (hb : bs[i]? = some b) {j : Nat} (hj : j < n) : wr.cell? ⟨b, j, none⟩ = some (.bool (R i j)) := (h.mat_row hb).cell hj
theorem Lab.mat_more (h : Lab w0 wr (Thing.mat bs n R :: ts)) (hR : ∀ i j, i < bs.length → j < n → R' i j = R i j) (h0 : ∀ j, j < n → R' bs.length j = false) :
    Lab w0 (wr.alloc (.cells (madeCells #[.bool false] n) 4)) (Thing.mat (bs ++ [wr.heap.size]) n R' :: ts) := by
  have hhi : ∀ k, k ∈ bs → k < wr.heap.size := fun k hk => h.high (Thing.mat bs n R) (by simp) k (.inl hk)
  have hb := below_new wr (.cells (madeCells #[.bool false] n) 4)
  refine h.turn (s' := Thing.mat (bs ++ [wr.heap.size]) n R') (Touch.of_below hb _) ⟨?_, fun i b hb' => ?_⟩ (fun k hk => ?_) (fun k hk => by simp [Thing.mat] at hk) (fun k hk => ?_)
  · rw [List.nodup_append]
    refine ⟨h.head.1, by simp, fun a ha b hb => ?_⟩
    have := hhi a ha
    simp at hb
    omega
  · rcases Nat.lt_or_ge i bs.length with hi | hi
    · rw [List.getElem?_append_left hi] at hb'
      have := rowIs_later (h.mat_row hb') hb
      exact World.rowIs.congr this fun j hj => by rw [hR i j hi hj]
    · rw [List.getElem?_append_right hi] at hb'
      have hi' : i = bs.length := by
        have := (List.getElem?_eq_some_iff.1 hb').1
        simp at this
        omega
      subst hi'
      simp at hb'
      subst hb'
      refine ⟨_, heap_alloc_new _ _, by simp [madeCells], fun j hj => ?_⟩
      rw [madeCells_at _ _ _ hj]
      show _ = some (Value.bool (R' bs.length j))
      rw [h0 j hj]
      simp [Nat.mod_one]
  · rcases List.mem_append.1 hk with h1 | h1
    · exact .inl h1
    · simp at h1; right; omega
  · rcases hk with hk | hk
    · rcases List.mem_append.1 hk with h1 | h1
      · have := hhi k h1; simp; omega
      · simp at h1; simp; omega
    · simp [Thing.mat] at hk
theorem Lab.mat_set (h : Lab w0 wr (Thing.mat bs n R :: ts)) {i b j : Nat} (hb : bs[i]? = some b) (v : Bool) (hR : ∀ i' j', R' i' j' = if i' = i ∧ j' = j then v else R i' j') :
    Lab w0 (wr.setCell ⟨b, j, none⟩ (.bool v)) (Thing.mat bs n R' :: ts) := by
  refine h.turn (s' := Thing.mat bs n R') ⟨rfl, rfl, rfl, by rw [World.size_setCell]; exact Nat.le_refl _, fun k hk hn => heap_setCell_other _ _ _ _ (fun e => hn (by rw [e]; exact List.mem_of_getElem? hb))⟩ ⟨h.head.1, fun i' b' hb' => ?_⟩ (fun k hk => .inl hk) (fun k hk => .inl hk) (fun k hk => ?_)
  · by_cases e : i' = i
    · subst e
      rw [hb] at hb'
      obtain rfl := Option.some.inj hb'
      have := (h.mat_row hb).set j (.bool v)
      refine World.rowIs.congr this fun j' hj' => ?_
      show (if j' = j then Value.bool v else Value.bool (R i' j')) = Value.bool (R' i' j')
      rw [hR i' j']
      by_cases e2 : j' = j
      · rw [if_pos e2, if_pos ⟨rfl, e2⟩]
      · rw [if_neg e2, if_neg (fun h => e2 h.2)]
    · have hne : b' ≠ b := fun e2 => by
        subst e2
        exact e ((List.getElem?_inj (List.getElem?_eq_some_iff.1 hb').1 h.head.1).1 (hb'.trans hb.symm))
      have := (h.mat_row hb').of_block (heap_setCell_other wr ⟨b, j, none⟩ b' (.bool v) hne)
      refine World.rowIs.congr this fun j' hj' => ?_
      show Value.bool (R i' j') = Value.bool (R' i' j')
      rw [hR i' j', if_neg (fun h => e h.1)]
  · rw [World.size_setCell]
    exact h.high (Thing.mat bs n R) (by simp) k hk
theorem Lab.nil_row (h : Lab w0 wr ts) (E : Nat) : Lab w0 wr (Thing.row E 1 (.slice none 0 0) 0 [] :: ts) := h.new_row (Below.refl _ _) (World.ownsRow_nil _ _ _ _)
theorem row_some {E m cap : Nat} {ao : Option Addr} {cells : List Value} (h : (Thing.row E 1 (.slice ao m cap) m cells).holds wr) (h0 : 0 < m) : ∃ g, ao = some ⟨g, 0, none⟩ := by
  have h' : wr.ownsRow 0 E 1 (.slice ao m cap) m cells := h
  rcases h'.2 with ⟨h1, h2⟩ | ⟨g, c2, cur, h1, -⟩
  · omega
  · simp only [Value.slice.injEq] at h1; exact ⟨g, h1.1⟩
theorem row_cellAt {E g m cap : Nat} {cells : List Value} (h : (Thing.row E 1 (.slice (some ⟨g, 0, none⟩) m cap) m cells).holds wr) {j : Nat} (hj : j < m) : wr.cell? ⟨g, j, none⟩ = cells[j]? ∧ wr.frozen? ⟨g, j, none⟩ = false :=
  ⟨World.ownsRow.cellAt h j (by omega), World.ownsRow.frozenAt h j⟩
/-- One value is appended to a list of one's own. -/
theorem run_append_row {ao : Option Addr} {c m : Nat} {cells : List Value} {u : Value} (T ty E bytes : Nat) (z : Value)
    (h : Lab w0 wr (Thing.row E 1 (.slice ao m c) m cells :: ts)) {nb : Nat} (hnb : wr.heap.size = nb) (hu : u.oneCell' = true)
    (ht : Tryz.prog.underlying T = some (.slice E)) (hi : (Tryz.prog.info? E).map (fun i => (i.zero, i.size, i.bytes)) = some (some z, 1, bytes)) (hz : z.cells.size = 1) (hbt : bytes ≤ 1000) (hn : m ≤ 999999999) :
    ∃ a' c' w', (Builtin.append_ #[T, T] ty #[.slice ao m c, .slice (some ⟨nb, 0, none⟩) 1 1]).run Tryz.prog (wr.alloc (.cells #[u] E)) = .ok (.slice a' (m + 1) c') w' ∧ Lab w0 w' (Thing.row E 1 (.slice a' (m + 1) c') (m + 1) (cells ++ [u]) :: ts) := by
  subst hnb
  have hl := h.later (below_new wr (.cells #[u] E))
  have hown : (wr.alloc (.cells #[u] E)).ownsRow 0 E 1 (.slice ao m c) m cells := hl.head
  have hsrc := srcOf_new wr u E
  have h1 : ∀ v ∈ [u], v.oneCell' = true := by intro v hv; simp at hv; rw [hv]; exact hu
  obtain ⟨v', w', hr, h2, h3⟩ := run_append_src (P := Tryz.prog) (wr.alloc (.cells #[u] E)) 0 T ty E 1 bytes z ht hi hz (by decide) hbt _ _ m 1 _ [u] hown hsrc h1 (by omega) (Nat.zero_le _)
  have blk := append_block (P := Tryz.prog) (T := T) (ty := ty) (bytes := bytes) (z := z) ht hi hbt hown hsrc h1 (by decide) (by omega) hr
  obtain ⟨a', c', rfl⟩ : ∃ a' c', v' = .slice a' (m + 1) c' := by
    rcases h2.2 with ⟨_, h0⟩ | ⟨g, cap, cur, rfl, _⟩
    · omega
    · exact ⟨_, _, rfl⟩
  refine ⟨a', c', w', hr, ?_⟩
  refine hl.turn (s' := Thing.row E 1 (.slice a' (m + 1) c') (m + 1) (cells ++ [u])) ⟨h3.os, h3.tape, h3.output, h3.size, fun b hb hn => h3.block b hb (fun e => hn (by simp [Thing.row, ← e]))⟩ h2 (fun k hk => ?_) (fun k hk => by simp [Thing.row] at hk) (fun k hk => ?_)
  · have hk' : (Value.slice a' (m + 1) c').ownBlock = some k := by simpa [Thing.row] using hk
    exact (blk k hk').imp (fun e => by simp [Thing.row, e]) id
  · rcases hk with hk | hk
    · exact (World.ownsRow.lt h2 k (by simpa [Thing.row] using hk)).2
    · simp [Thing.row] at hk
/-- What only reads, walked as a quiet thing, stands still. -/
theorem wpStill_of_quiet {P : Program} {ops : Array Oper} {w : World} {Q : Act → Prop} : ∀ (l : List Oper) (a : Act), wpQuiet P ops (fun w' => w' = w) Q l a → wpStill P ops w Q l a
  | [], _, h => h
  | o :: rest, a, h => by
    unfold wpQuiet at h
    unfold wpStill
    split
    · rename_i hw
      rw [if_pos hw] at h
      obtain ⟨v, hv, hn⟩ := h
      have hv' := hv w rfl
      unfold Oper.quietAt at hv'
      unfold Oper.still
      generalize (execOp a.eval o).run P w = r at hv' ⊢
      have hnext := wpStill_of_quiet rest _ hn
      unfold Oper.quietUpon at hv'
      unfold Oper.stillUpon
      split at hv'
      · obtain ⟨rfl, rfl⟩ := hv'
        exact ⟨rfl, hnext⟩
      · obtain ⟨rfl, rfl⟩ := hv'
        exact ⟨rfl, hnext⟩
      · obtain ⟨rfl, hc⟩ := hv'
        exact ⟨rfl, v, hc, hnext⟩
      · exact hv'.elim
    · rename_i hw
      rw [if_neg hw] at h
      exact wpStill_of_quiet rest _ h
/-- A region that only reads, but for its tail, which is a forced chain. -/
theorem wp_region_quiet_tail {P : Program} {id : Nat} {Q : Exit → Act → World → Prop} {a : Act} {w : World} {l : List Oper} (n : Nat) (hm : P.follows .mixedOrders = true) (hB : Region.lexTailB .any l.toArray n = true)
    (h : wpQuiet P l.toArray (fun w' => w' = w.drew) (fun a' => wpList P l.toArray Q (l.drop n) a' w.drew) (l.take n) a) : (Code.region id l.toArray true).wp P Q a w :=
  wp_region_still_tail n hm hB (wpStill_of_quiet _ _ h)
theorem Tryz.infoBools : (Tryz.prog.info? 84).map (fun i => (i.zero, i.size, i.bytes)) = some (some (.slice none 0 0), 1, 24) := by kernel_rfl
end
end Go.Proofs.YteamnchoddegpaaGreatDoor
namespace Go.Proofs.YteamnchoddegpaaGreatDoor
open Go.RowKit Go.Maps
set_option maxHeartbeats 3200000
/-- Several things, as one. -/
def Thing.bundle (fs : List Thing) : Thing :=
  ⟨fs.flatMap (·.W), fs.flatMap (·.R), fun w => (∀ f ∈ fs, f.holds w) ∧ fs.Pairwise Apart, fun w w' h hk =>
    ⟨fun f hf => f.keep w w' (h.1 f hf) fun k hm => hk k (hm.imp (fun hm => List.mem_flatMap.2 ⟨f, hf, hm⟩) fun hm => List.mem_flatMap.2 ⟨f, hf, hm⟩), h.2⟩⟩
section
variable {w0 wr w' : World} {fs ts : List Thing}
theorem Lab.bundle (h : Lab w0 wr (fs ++ ts)) : Lab w0 wr (Thing.bundle fs :: ts) := by
  obtain ⟨p1, p2, p3⟩ := List.pairwise_append.1 h.apart
  have hm : ∀ f ∈ fs, f ∈ fs ++ ts := fun f hf => List.mem_append.2 (.inl hf)
  have hm2 : ∀ t ∈ ts, t ∈ fs ++ ts := fun f hf => List.mem_append.2 (.inr hf)
  refine ⟨h.below, fun t ht => ?_, fun t ht k hk => ?_, fun t ht k hk => ?_, List.pairwise_cons.2 ⟨fun t ht => ⟨fun k hk => ?_, fun k hk => ?_⟩, p2⟩⟩
  · rcases List.mem_cons.1 ht with rfl | ht
    · exact ⟨fun f hf => h.holds f (hm f hf), p1⟩
    · exact h.holds t (hm2 t ht)
  · rcases List.mem_cons.1 ht with rfl | ht
    · obtain ⟨f, hf, hx⟩ := List.mem_flatMap.1 hk
      exact h.low f (hm f hf) k hx
    · exact h.low t (hm2 t ht) k hk
  · rcases List.mem_cons.1 ht with rfl | ht
    · rcases hk with hk | hk
      · obtain ⟨f, hf, hx⟩ := List.mem_flatMap.1 hk
        exact h.high f (hm f hf) k (.inl hx)
      · obtain ⟨f, hf, hx⟩ := List.mem_flatMap.1 hk
        exact h.high f (hm f hf) k (.inr hx)
    · exact h.high t (hm2 t ht) k hk
  · obtain ⟨f, hf, hx⟩ := List.mem_flatMap.1 hk
    exact (p3 f hf t ht).1 k hx
  · obtain ⟨f, hf, hx⟩ := List.mem_flatMap.1 hk
    exact (p3 f hf t ht).2 k hx
end
/-- A list of numbers of one's own. -/
def Thing.numsK (k : IntKind) (E : Nat) (v : Value) (xs : List Int) : Thing := Thing.row E 1 v xs.length (xs.map (Value.int k))
section
variable {w0 wr w' : World} {ts : List Thing} {k : IntKind} {E Es : Nat} {v : Value} {vs : List Value} {xss : List (List Int)} {c : Nat}
theorem Lab.make_row (h : Lab w0 wr ts) (n T : Nat) (z : Value) (hn : n ≤ maxLen) : Lab w0 (wr.alloc (.cells (madeCells #[z] n) T)) (Thing.row T 1 (.slice (some ⟨wr.heap.size, 0, none⟩) n n) n (List.replicate n z) :: ts) := by
  refine h.new_row (below_new wr _) ⟨by simp, .inr ⟨_, n, _, rfl, Nat.le_refl _, heap_alloc_new wr _, Nat.le_refl _, hn, by simp [madeCells], ?_⟩⟩
  refine List.ext_getElem? fun i => ?_
  rw [Nat.mul_one, List.getElem?_take, List.getElem?_replicate]
  split
  · rename_i hi
    rw [Array.getElem?_toList, madeCells_at _ _ i hi]
    simp [Nat.mod_one]
  · rfl
theorem Lab.numsK_none (h : Lab w0 wr ts) : Lab w0 wr (Thing.numsK k E (.slice none 0 0) [] :: ts) :=
  h.new_row (E := E) (size := 1) (n := 0) (v := .slice none 0 0) (cells := []) (Below.refl _ _) (World.ownsRow_nil _ _ _ _)
theorem Lab.append1 {ao : Option Addr} {m c : Nat} {ys : List Int} (T ty bytes : Nat) (x : Int) (hy : ys.length = m) (h : Lab w0 wr (Thing.numsK k E (.slice ao m c) ys :: ts))
    (ht : Tryz.prog.underlying T = some (.slice E)) (hi : (Tryz.prog.info? E).map (fun i => (i.zero, i.size, i.bytes)) = some (some (.int k 0), 1, bytes)) (hbt : bytes ≤ 1000) (hn : m ≤ 999999999) :
    ∃ a' c' w', (Builtin.append_ #[T, T] ty #[.slice ao m c, .slice (some ⟨wr.heap.size, 0, none⟩) 1 1]).run Tryz.prog (wr.alloc (.cells #[.int k x] E)) = .ok (.slice a' (m + 1) c') w' ∧ Lab w0 w' (Thing.numsK k E (.slice a' (m + 1) c') (ys ++ [x]) :: ts) := by
  unfold Thing.numsK at h
  rw [hy] at h
  obtain ⟨a', c', w', hr, hl⟩ := run_append_row T ty E bytes (.int k 0) h rfl (u := .int k x) rfl ht hi rfl hbt hn
  refine ⟨a', c', w', hr, ?_⟩
  unfold Thing.numsK
  rw [List.length_append, hy, List.map_append]
  exact hl
end
end Go.Proofs.YteamnchoddegpaaGreatDoor
