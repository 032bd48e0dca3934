/- The reference's lattice: a matrix in rows; Join, Meet, Is, Le; Known; Check, Var of the reference of package twin. -/
import Derived.Test.YtmfendfpjpbhdaaDoorLatE
namespace Go.Proofs.YtmfendfpjpbhdaaDoor
open Go.RowKit Go.Maps
set_option maxHeartbeats 3200000

def rowV (n : Nat) (b : Nat) : Value := .slice (some ⟨b, 0, none⟩) n n
/-- A matrix in memory, with its rows' blocks. -/
structure MatAt (w : World) (xb n : Nat) (R : Rel) (g cap : Nat) (bs : Nat → Nat) : Prop where
  le : n ≤ 32
  top : w.cell? ⟨xb, 0, none⟩ = some (.slice (some ⟨g, 0, none⟩) n cap)
  rows : ∀ {i}, i < n → w.cell? ⟨g, i, none⟩ = some (.slice (some ⟨bs i, 0, none⟩) n n)
  cell : ∀ {i j}, i < n → j < n → w.cell? ⟨bs i, j, none⟩ = some (.bool (R i j))
def MatIs (w : World) (xb n : Nat) (R : Rel) : Prop := ∃ g cap bs, MatAt w xb n R g cap bs
theorem MatIs.later {w w' : World} {xb n : Nat} {R : Rel} (h : MatIs w xb n R) (hb : Below w.heap.size w w') : MatIs w' xb n R := by
  obtain ⟨g, cap, bs, hM⟩ := h
  exact ⟨g, cap, bs, hM.le, cell_later hb hM.top, fun hi => cell_later hb (hM.rows hi), fun hi hj => cell_later hb (hM.cell hi hj)⟩
section
variable {w : World} {xb n : Nat} {R : Rel}
/-- What Join returns. -/
def JoinB (n : Nat) (R : Rel) (a b c : Nat) : Prop := R a c = true ∧ R b c = true ∧ ∀ d, d < n → R a d = true → R b d = true → R c d = true
def JoinE (n : Nat) (R : Rel) (a b : Nat) : Prop := ∃ c, c < n ∧ JoinB n R a b c
set_option maxRecDepth 100000 in
theorem rjoin_any (h : MatIs w xb n R) (a b : Nat) (ha : a < n) (hb : b < n) :
    Calls Tryd.prog 32 #[.pointer (some ⟨xb, 0, none⟩), .int .i64 a, .int .i64 b] w fun e w' => ∃ r : Int, e = .returned (.int .i64 r) ∧ (r < 0 ↔ ¬ JoinE n R a b) ∧ w = w' := by
  obtain ⟨g, cap, bs, hM⟩ := h
  have c0 := hM.top
  have hn32 := hM.le
  go_enter Tryd.func32, Tryd.ntmps32
  go_wp2
  go_loopw [7] (fun v wx => ∃ c : Nat, c ≤ n ∧ v = .int .i64 c ∧ (∀ c', c' < c → ¬ JoinB n R a b c') ∧ w = wx) (fun v _ => n - (intOf v).toNat)
  case atStart => exact ⟨0, by omega, rfl, fun c' h => by omega, rfl⟩
  case round =>
    obtain ⟨c, hcn, rfl, hall, rfl⟩ := hrel
    have HALL := Lib.hid hall
    clear hall
    by_cases hc : c < n
    · have hc' : (c : Int) < (n : Int) := by omega
      have ha' : (a : Int) < (n : Int) := by omega
      have hb' : (b : Int) < (n : Int) := by omega
      have ha0 : (0 : Int) ≤ (a : Int) := by omega
      have hb0 : (0 : Int) ≤ (b : Int) := by omega
      have hc0 : (0 : Int) ≤ (c : Int) := by omega
      have ra := hM.rows ha
      have rb := hM.rows hb
      have rc := hM.rows hc
      have dac := hM.cell ha hc
      have dbc := hM.cell hb hc
      go_upto_region 4 with fail
      go_cut [8] (fun v wx => (∃ B : Bool, v = .bool B ∧ (B = true ↔ (R a c = true ∧ R b c = true))) ∧ w = wx)
      case first =>
        cases h1 : R a c with
        | true =>
          cases h2 : R b c with
          | true =>
            rw [h1] at dac
            rw [h2] at dbc
            have H12 := Lib.hid (And.intro h1 h2)
            clear h1 h2
            go_wp2
            go_meet
            exact ⟨⟨true, rfl, fun _ => H12.out, fun _ => rfl⟩, rfl⟩
          | false =>
            rw [h1] at dac
            rw [h2] at dbc
            have H2 := Lib.hid h2
            clear h1 h2
            go_wp2
            go_meet
            exact ⟨⟨false, rfl, fun h => absurd h (by simp), fun h => absurd h.2 (by rw [H2.out]; simp)⟩, rfl⟩
        | false =>
          rw [h1] at dac
          have H1 := Lib.hid h1
          clear h1
          go_wp2
          go_meet
          exact ⟨⟨false, rfl, fun h => absurd h (by simp), fun h => absurd h.1 (by rw [H1.out]; simp)⟩, rfl⟩
      case rest =>
        obtain ⟨⟨B, rfl, hB⟩, rfl⟩ := hcut
        have HB := Lib.hid hB
        clear hB dac dbc
        go_wp2
        go_loopw [8, 9] (fun v i wx => ∃ (d : Nat) (B : Bool), d ≤ n ∧ v = .bool B ∧ i = .int .i64 d ∧ (B = true ↔ ((R a c = true ∧ R b c = true) ∧ ∀ d', d' < d → R a d' = true → R b d' = true → R c d' = true)) ∧ w = wx) (fun _ i _ => n - (intOf i).toNat)
        case atStart => exact ⟨0, B, by omega, rfl, rfl, by rw [HB.out]; simp, rfl⟩
        case round =>
          clear HB
          obtain ⟨d, B2, hdn, rfl, rfl, hB, rfl⟩ := hrel
          have HB := Lib.hid hB
          clear hB
          cases B2 with
          | false =>
            have HN := Lib.hid (show ¬ JoinB n R a b c from fun h => Bool.false_ne_true (HB.out.2 ⟨⟨h.1, h.2.1⟩, fun d' hd' => h.2.2 d' (by omega)⟩))
            by_cases hd : d < n
            · have hd' : (d : Int) < (n : Int) := by omega
              go_wp2
              go_roundw
              case rel => exact ⟨c + 1, by omega, by go_num, fun c' hc' => (by by_cases e : c' = c; (· subst e; exact HN.out); (· exact HALL.out c' (by omega))), by trivial⟩
              case measure => simp [intOf]; omega
            · have hd' : ¬ (d : Int) < (n : Int) := by omega
              go_wp2
              go_roundw
              case rel => exact ⟨c + 1, by omega, by go_num, fun c' hc' => (by by_cases e : c' = c; (· subst e; exact HN.out); (· exact HALL.out c' (by omega))), by trivial⟩
              case measure => simp [intOf]; omega
          | true =>
            have HT := Lib.hid (HB.out.1 rfl)
            clear HB
            by_cases hd : d < n
            · have hd' : (d : Int) < (n : Int) := by omega
              have hd0 : (0 : Int) ≤ (d : Int) := by omega
              have rd := hM.rows hd
              have dcd := hM.cell hc hd
              have dad := hM.cell ha hd
              have dbd := hM.cell hb hd
              have HN := Lib.hid (show ∀ B : Bool, (B = true ↔ (R a d = true → R b d = true → R c d = true)) → (B = true ↔ ((R a c = true ∧ R b c = true) ∧ ∀ d', d' < d + 1 → R a d' = true → R b d' = true → R c d' = true)) from fun B hB => by
                rw [hB]
                exact ⟨fun h => ⟨HT.out.1, fun d' hd' => (by by_cases e : d' = d; (· subst e; exact h); (· exact HT.out.2 d' (by omega)))⟩, fun h => h.2 d (by omega)⟩)
              clear HT
              cases h1 : R c d with
              | true =>
                rw [h1] at dcd HN
                clear h1
                go_wp2
                go_roundw
                case rel => exact ⟨d + 1, true, by omega, rfl, by go_num, HN.out true (by simp), by trivial⟩
                case measure => simp [intOf]; omega
              | false =>
                rw [h1] at dcd HN
                clear h1
                cases h2 : R a d with
                | false =>
                  rw [h2] at dad HN
                  clear h2
                  go_wp2
                  go_roundw
                  case rel => exact ⟨d + 1, true, by omega, rfl, by go_num, HN.out true (by simp), by trivial⟩
                  case measure => simp [intOf]; omega
                | true =>
                  rw [h2] at dad HN
                  clear h2
                  cases h3 : R b d with
                  | false =>
                    rw [h3] at dbd HN
                    clear h3
                    go_wp2
                    go_roundw
                    case rel => exact ⟨d + 1, true, by omega, rfl, by go_num, HN.out true (by simp), by trivial⟩
                    case measure => simp [intOf]; omega
                  | true =>
                    rw [h3] at dbd HN
                    clear h3
                    go_wp2
                    go_roundw
                    case rel => exact ⟨d + 1, false, by omega, rfl, by go_num, HN.out false (by simp), by trivial⟩
                    case measure => simp [intOf]; omega
            · have hd' : ¬ (d : Int) < (n : Int) := by omega
              have HY := Lib.hid (show JoinB n R a b c from ⟨HT.out.1.1, HT.out.1.2, fun d' hd' => HT.out.2 d' (by omega)⟩)
              go_wp2
              go_ret
              exact ⟨(c : Int), rfl, ⟨fun h => absurd h (by omega), fun h => absurd ⟨c, hc, HY.out⟩ h⟩, rfl⟩
    · have HN := Lib.hid (show ¬ JoinE n R a b from fun ⟨c', h1, h2⟩ => HALL.out c' (by omega) h2)
      go_wp2
      go_ret
      exact ⟨-1, rfl, ⟨fun _ => HN.out, fun _ => by omega⟩, rfl⟩
/-- What Meet returns. -/
def MeetB (n : Nat) (R : Rel) (a b c : Nat) : Prop := R c a = true ∧ R c b = true ∧ ∀ d, d < n → R d a = true → R d b = true → R d c = true
def MeetE (n : Nat) (R : Rel) (a b : Nat) : Prop := ∃ c, c < n ∧ MeetB n R a b c
set_option maxRecDepth 100000 in
theorem rmeet_any (h : MatIs w xb n R) (a b : Nat) (ha : a < n) (hb : b < n) :
    Calls Tryd.prog 33 #[.pointer (some ⟨xb, 0, none⟩), .int .i64 a, .int .i64 b] w fun e w' => ∃ r : Int, e = .returned (.int .i64 r) ∧ (r < 0 ↔ ¬ MeetE n R a b) ∧ w = w' := by
  obtain ⟨g, cap, bs, hM⟩ := h
  have c0 := hM.top
  have hn32 := hM.le
  go_enter Tryd.func33, Tryd.ntmps33
  go_wp2
  go_loopw [7] (fun v wx => ∃ c : Nat, c ≤ n ∧ v = .int .i64 c ∧ (∀ c', c' < c → ¬ MeetB n R a b c') ∧ w = wx) (fun v _ => n - (intOf v).toNat)
  case atStart => exact ⟨0, by omega, rfl, fun c' h => by omega, rfl⟩
  case round =>
    obtain ⟨c, hcn, rfl, hall, rfl⟩ := hrel
    have HALL := Lib.hid hall
    clear hall
    by_cases hc : c < n
    · have hc' : (c : Int) < (n : Int) := by omega
      have ha' : (a : Int) < (n : Int) := by omega
      have hb' : (b : Int) < (n : Int) := by omega
      have ha0 : (0 : Int) ≤ (a : Int) := by omega
      have hb0 : (0 : Int) ≤ (b : Int) := by omega
      have hc0 : (0 : Int) ≤ (c : Int) := by omega
      have ra := hM.rows ha
      have rb := hM.rows hb
      have rc := hM.rows hc
      have dac := hM.cell hc ha
      have dbc := hM.cell hc hb
      go_upto_region 4 with fail
      go_cut [8] (fun v wx => (∃ B : Bool, v = .bool B ∧ (B = true ↔ (R c a = true ∧ R c b = true))) ∧ w = wx)
      case first =>
        cases h1 : R c a with
        | true =>
          cases h2 : R c b with
          | true =>
            rw [h1] at dac
            rw [h2] at dbc
            have H12 := Lib.hid (And.intro h1 h2)
            clear h1 h2
            go_wp2
            go_meet
            exact ⟨⟨true, rfl, fun _ => H12.out, fun _ => rfl⟩, rfl⟩
          | false =>
            rw [h1] at dac
            rw [h2] at dbc
            have H2 := Lib.hid h2
            clear h1 h2
            go_wp2
            go_meet
            exact ⟨⟨false, rfl, fun h => absurd h (by simp), fun h => absurd h.2 (by rw [H2.out]; simp)⟩, rfl⟩
        | false =>
          rw [h1] at dac
          have H1 := Lib.hid h1
          clear h1
          go_wp2
          go_meet
          exact ⟨⟨false, rfl, fun h => absurd h (by simp), fun h => absurd h.1 (by rw [H1.out]; simp)⟩, rfl⟩
      case rest =>
        obtain ⟨⟨B, rfl, hB⟩, rfl⟩ := hcut
        have HB := Lib.hid hB
        clear hB dac dbc
        go_wp2
        go_loopw [8, 9] (fun v i wx => ∃ (d : Nat) (B : Bool), d ≤ n ∧ v = .bool B ∧ i = .int .i64 d ∧ (B = true ↔ ((R c a = true ∧ R c b = true) ∧ ∀ d', d' < d → R d' a = true → R d' b = true → R d' c = true)) ∧ w = wx) (fun _ i _ => n - (intOf i).toNat)
        case atStart => exact ⟨0, B, by omega, rfl, rfl, by rw [HB.out]; simp, rfl⟩
        case round =>
          clear HB
          obtain ⟨d, B2, hdn, rfl, rfl, hB, rfl⟩ := hrel
          have HB := Lib.hid hB
          clear hB
          cases B2 with
          | false =>
            have HN := Lib.hid (show ¬ MeetB n R a b c from fun h => Bool.false_ne_true (HB.out.2 ⟨⟨h.1, h.2.1⟩, fun d' hd' => h.2.2 d' (by omega)⟩))
            by_cases hd : d < n
            · have hd' : (d : Int) < (n : Int) := by omega
              go_wp2
              go_roundw
              case rel => exact ⟨c + 1, by omega, by go_num, fun c' hc' => (by by_cases e : c' = c; (· subst e; exact HN.out); (· exact HALL.out c' (by omega))), by trivial⟩
              case measure => simp [intOf]; omega
            · have hd' : ¬ (d : Int) < (n : Int) := by omega
              go_wp2
              go_roundw
              case rel => exact ⟨c + 1, by omega, by go_num, fun c' hc' => (by by_cases e : c' = c; (· subst e; exact HN.out); (· exact HALL.out c' (by omega))), by trivial⟩
              case measure => simp [intOf]; omega
          | true =>
            have HT := Lib.hid (HB.out.1 rfl)
            clear HB
            by_cases hd : d < n
            · have hd' : (d : Int) < (n : Int) := by omega
              have hd0 : (0 : Int) ≤ (d : Int) := by omega
              have rd := hM.rows hd
              have dcd := hM.cell hd hc
              have dad := hM.cell hd ha
              have dbd := hM.cell hd hb
              have HN := Lib.hid (show ∀ B : Bool, (B = true ↔ (R d a = true → R d b = true → R d c = true)) → (B = true ↔ ((R c a = true ∧ R c b = true) ∧ ∀ d', d' < d + 1 → R d' a = true → R d' b = true → R d' c = true)) from fun B hB => by
                rw [hB]
                exact ⟨fun h => ⟨HT.out.1, fun d' hd' => (by by_cases e : d' = d; (· subst e; exact h); (· exact HT.out.2 d' (by omega)))⟩, fun h => h.2 d (by omega)⟩)
              clear HT
              cases h1 : R d c with
              | true =>
                rw [h1] at dcd HN
                clear h1
                go_wp2
                go_roundw
                case rel => exact ⟨d + 1, true, by omega, rfl, by go_num, HN.out true (by simp), by trivial⟩
                case measure => simp [intOf]; omega
              | false =>
                rw [h1] at dcd HN
                clear h1
                cases h2 : R d a with
                | false =>
                  rw [h2] at dad HN
                  clear h2
                  go_wp2
                  go_roundw
                  case rel => exact ⟨d + 1, true, by omega, rfl, by go_num, HN.out true (by simp), by trivial⟩
                  case measure => simp [intOf]; omega
                | true =>
                  rw [h2] at dad HN
                  clear h2
                  cases h3 : R d b with
                  | false =>
                    rw [h3] at dbd HN
                    clear h3
                    go_wp2
                    go_roundw
                    case rel => exact ⟨d + 1, true, by omega, rfl, by go_num, HN.out true (by simp), by trivial⟩
                    case measure => simp [intOf]; omega
                  | true =>
                    rw [h3] at dbd HN
                    clear h3
                    go_wp2
                    go_roundw
                    case rel => exact ⟨d + 1, false, by omega, rfl, by go_num, HN.out false (by simp), by trivial⟩
                    case measure => simp [intOf]; omega
            · have hd' : ¬ (d : Int) < (n : Int) := by omega
              have HY := Lib.hid (show MeetB n R a b c from ⟨HT.out.1.1, HT.out.1.2, fun d' hd' => HT.out.2 d' (by omega)⟩)
              go_wp2
              go_ret
              exact ⟨(c : Int), rfl, ⟨fun h => absurd h (by omega), fun h => absurd ⟨c, hc, HY.out⟩ h⟩, rfl⟩
    · have HN := Lib.hid (show ¬ MeetE n R a b from fun ⟨c', h1, h2⟩ => HALL.out c' (by omega) h2)
      go_wp2
      go_ret
      exact ⟨-1, rfl, ⟨fun _ => HN.out, fun _ => by omega⟩, rfl⟩
end
end Go.Proofs.YtmfendfpjpbhdaaDoor
