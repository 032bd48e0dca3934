/- LatF, LatH, Lists: joined by wip/bundle.py. -/
import Derived.Test.YteamnchoddegpaaGreatDoorB1
import Derived.Test.YteamnchoddegpaaGreatDoorB2
import Derived.Test.YteamnchoddegpaaGreatDoorB3
import Derived.Test.YteamnchoddegpaaGreatDoorB4
import Derived.Test.YteamnchoddegpaaGreatDoorB5
import Derived.Test.YteamnchoddegpaaGreatDoorB6
import Derived.Test.YteamnchoddegpaaGreatDoorB7
import Derived.Test.YteamnchoddegpaaGreatDoorB8
import Derived.Test.YteamnchoddegpaaGreatDoorB9
import Derived.Test.YteamnchoddegpaaGreatDoorB10
import Derived.Test.YteamnchoddegpaaGreatDoorB11
import Derived.Test.YteamnchoddegpaaGreatDoorB12
import Derived.Test.YteamnchoddegpaaGreatDoorB13
import Derived.Test.YteamnchoddegpaaGreatDoorB14
import Derived.Test.YteamnchoddegpaaGreatDoorB15
import Derived.Test.YteamnchoddegpaaGreatDoorB16
import Derived.Test.YteamnchoddegpaaGreatDoorB17
import Derived.StillTailTactics
import Derived.BigQuiet
namespace Go.Proofs.YteamnchoddegpaaGreatDoor
open Go.RowKit Go.Maps
set_option maxHeartbeats 3200000
def rowV (n : Nat) (b : Nat) : Value := .slice (some ⟨b, 0, none⟩) n n
/-- A matrix in memory, with its rows' blocks. -/
structure MatAt (w : World) (xb n : Nat) (R : Rel) (g cap : Nat) (bs : Nat → Nat) : Prop where
  le : n ≤ 32
  top : w.cell? ⟨xb, 0, none⟩ = some (.slice (some ⟨g, 0, none⟩) n cap)
  rows : ∀ {i}, i < n → w.cell? ⟨g, i, none⟩ = some (.slice (some ⟨bs i, 0, none⟩) n n)
  cell : ∀ {i j}, i < n → j < n → w.cell? ⟨bs i, j, none⟩ = some (.bool (R i j))
def MatIs (w : World) (xb n : Nat) (R : Rel) : Prop := ∃ g cap bs, MatAt w xb n R g cap bs
theorem MatIs.later {w w' : World} {xb n : Nat} {R : Rel} (h : MatIs w xb n R) (hb : Below w.heap.size w w') : MatIs w' xb n R := by
  obtain ⟨g, cap, bs, hM⟩ := h
  exact ⟨g, cap, bs, hM.le, cell_later hb hM.top, fun hi => cell_later hb (hM.rows hi), fun hi hj => cell_later hb (hM.cell hi hj)⟩
section
variable {w : World} {xb n : Nat} {R : Rel}
/-- What Join returns. -/
def JoinB (n : Nat) (R : Rel) (a b c : Nat) : Prop := R a c = true ∧ R b c = true ∧ ∀ d, d < n → R a d = true → R b d = true → R c d = true
def JoinE (n : Nat) (R : Rel) (a b : Nat) : Prop := ∃ c, c < n ∧ JoinB n R a b c
set_option maxRecDepth 100000 in
theorem rjoin_any (h : MatIs w xb n R) (a b : Nat) (ha : a < n) (hb : b < n) :
    Calls Tryz.prog 53 #[.pointer (some ⟨xb, 0, none⟩), .int .i64 a, .int .i64 b] w fun e w' => ∃ r : Int, e = .returned (.int .i64 r) ∧ (r < 0 ↔ ¬ JoinE n R a b) ∧ w = w' := by
  obtain ⟨g, cap, bs, hM⟩ := h
  have c0 := hM.top
  have hn32 := hM.le
  go_enter Tryz.func53, Tryz.ntmps53
  go_wp2
  go_loopw [7] (fun v wx => ∃ c : Nat, c ≤ n ∧ v = .int .i64 c ∧ (∀ c', c' < c → ¬ JoinB n R a b c') ∧ w = wx) (fun v _ => n - (intOf v).toNat)
  case atStart => exact ⟨0, by omega, rfl, fun c' h => by omega, rfl⟩
  case round =>
    obtain ⟨c, hcn, rfl, hall, rfl⟩ := hrel
    have HALL := Lib.hid hall
    clear hall
    by_cases hc : c < n
    · have hc' : (c : Int) < (n : Int) := by omega
      have ha' : (a : Int) < (n : Int) := by omega
      have hb' : (b : Int) < (n : Int) := by omega
      have ha0 : (0 : Int) ≤ (a : Int) := by omega
      have hb0 : (0 : Int) ≤ (b : Int) := by omega
      have hc0 : (0 : Int) ≤ (c : Int) := by omega
      have ra := hM.rows ha
      have rb := hM.rows hb
      have rc := hM.rows hc
      have dac := hM.cell ha hc
      have dbc := hM.cell hb hc
      go_upto_region 4 with fail
      go_cut [8] (fun v wx => (∃ B : Bool, v = .bool B ∧ (B = true ↔ (R a c = true ∧ R b c = true))) ∧ w = wx)
      case first =>
        cases h1 : R a c with
        | true =>
          cases h2 : R b c with
          | true =>
            rw [h1] at dac
            rw [h2] at dbc
            have H12 := Lib.hid (And.intro h1 h2)
            clear h1 h2
            go_wp2
            go_meet
            exact ⟨⟨true, rfl, fun _ => H12.out, fun _ => rfl⟩, rfl⟩
          | false =>
            rw [h1] at dac
            rw [h2] at dbc
            have H2 := Lib.hid h2
            clear h1 h2
            go_wp2
            go_meet
            exact ⟨⟨false, rfl, fun h => absurd h (by simp), fun h => absurd h.2 (by rw [H2.out]; simp)⟩, rfl⟩
        | false =>
          rw [h1] at dac
          have H1 := Lib.hid h1
          clear h1
          go_wp2
          go_meet
          exact ⟨⟨false, rfl, fun h => absurd h (by simp), fun h => absurd h.1 (by rw [H1.out]; simp)⟩, rfl⟩
      case rest =>
        obtain ⟨⟨B, rfl, hB⟩, rfl⟩ := hcut
        have HB := Lib.hid hB
        clear hB dac dbc
        go_wp2
        go_loopw [8, 9] (fun v i wx => ∃ (d : Nat) (B : Bool), d ≤ n ∧ v = .bool B ∧ i = .int .i64 d ∧ (B = true ↔ ((R a c = true ∧ R b c = true) ∧ ∀ d', d' < d → R a d' = true → R b d' = true → R c d' = true)) ∧ w = wx) (fun _ i _ => n - (intOf i).toNat)
        case atStart => exact ⟨0, B, by omega, rfl, rfl, by rw [HB.out]; simp, rfl⟩
        case round =>
          clear HB
          obtain ⟨d, B2, hdn, rfl, rfl, hB, rfl⟩ := hrel
          have HB := Lib.hid hB
          clear hB
          cases B2 with
          | false =>
            have HN := Lib.hid (show ¬ JoinB n R a b c from fun h => Bool.false_ne_true (HB.out.2 ⟨⟨h.1, h.2.1⟩, fun d' hd' => h.2.2 d' (by omega)⟩))
            by_cases hd : d < n
            · have hd' : (d : Int) < (n : Int) := by omega
              go_wp2
              go_roundw
              case rel => exact ⟨c + 1, by omega, by go_num, fun c' hc' => (by by_cases e : c' = c; (· subst e; exact HN.out); (· exact HALL.out c' (by omega))), by trivial⟩
              case measure => simp [intOf]; omega
            · have hd' : ¬ (d : Int) < (n : Int) := by omega
              go_wp2
              go_roundw
              case rel => exact ⟨c + 1, by omega, by go_num, fun c' hc' => (by by_cases e : c' = c; (· subst e; exact HN.out); (· exact HALL.out c' (by omega))), by trivial⟩
              case measure => simp [intOf]; omega
          | true =>
            have HT := Lib.hid (HB.out.1 rfl)
            clear HB
            by_cases hd : d < n
            · have hd' : (d : Int) < (n : Int) := by omega
              have hd0 : (0 : Int) ≤ (d : Int) := by omega
              have rd := hM.rows hd
              have dcd := hM.cell hc hd
              have dad := hM.cell ha hd
              have dbd := hM.cell hb hd
              have HN := Lib.hid (show ∀ B : Bool, (B = true ↔ (R a d = true → R b d = true → R c d = true)) → (B = true ↔ ((R a c = true ∧ R b c = true) ∧ ∀ d', d' < d + 1 → R a d' = true → R b d' = true → R c d' = true)) from fun B hB => by
                rw [hB]
                exact ⟨fun h => ⟨HT.out.1, fun d' hd' => (by by_cases e : d' = d; (· subst e; exact h); (· exact HT.out.2 d' (by omega)))⟩, fun h => h.2 d (by omega)⟩)
              clear HT
              cases h1 : R c d with
              | true =>
                rw [h1] at dcd HN
                clear h1
                go_wp2
                go_roundw
                case rel => exact ⟨d + 1, true, by omega, rfl, by go_num, HN.out true (by simp), by trivial⟩
                case measure => simp [intOf]; omega
              | false =>
                rw [h1] at dcd HN
                clear h1
                cases h2 : R a d with
                | false =>
                  rw [h2] at dad HN
                  clear h2
                  go_wp2
                  go_roundw
                  case rel => exact ⟨d + 1, true, by omega, rfl, by go_num, HN.out true (by simp), by trivial⟩
                  case measure => simp [intOf]; omega
                | true =>
                  rw [h2] at dad HN
                  clear h2
                  cases h3 : R b d with
                  | false =>
                    rw [h3] at dbd HN
                    clear h3
                    go_wp2
                    go_roundw
                    case rel => exact ⟨d + 1, true, by omega, rfl, by go_num, HN.out true (by simp), by trivial⟩
                    case measure => simp [intOf]; omega
                  | true =>
                    rw [h3] at dbd HN
                    clear h3
                    go_wp2
                    go_roundw
                    case rel => exact ⟨d + 1, false, by omega, rfl, by go_num, HN.out false (by simp), by trivial⟩
                    case measure => simp [intOf]; omega
            · have hd' : ¬ (d : Int) < (n : Int) := by omega
              have HY := Lib.hid (show JoinB n R a b c from ⟨HT.out.1.1, HT.out.1.2, fun d' hd' => HT.out.2 d' (by omega)⟩)
              go_wp2
              go_ret
              exact ⟨(c : Int), rfl, ⟨fun h => absurd h (by omega), fun h => absurd ⟨c, hc, HY.out⟩ h⟩, rfl⟩
    · have HN := Lib.hid (show ¬ JoinE n R a b from fun ⟨c', h1, h2⟩ => HALL.out c' (by omega) h2)
      go_wp2
      go_ret
      exact ⟨-1, rfl, ⟨fun _ => HN.out, fun _ => by omega⟩, rfl⟩
/-- What Meet returns. -/
def MeetB (n : Nat) (R : Rel) (a b c : Nat) : Prop := R c a = true ∧ R c b = true ∧ ∀ d, d < n → R d a = true → R d b = true → R d c = true
def MeetE (n : Nat) (R : Rel) (a b : Nat) : Prop := ∃ c, c < n ∧ MeetB n R a b c
set_option maxRecDepth 100000 in
theorem rmeet_any (h : MatIs w xb n R) (a b : Nat) (ha : a < n) (hb : b < n) :
    Calls Tryz.prog 54 #[.pointer (some ⟨xb, 0, none⟩), .int .i64 a, .int .i64 b] w fun e w' => ∃ r : Int, e = .returned (.int .i64 r) ∧ (r < 0 ↔ ¬ MeetE n R a b) ∧ w = w' := by
  obtain ⟨g, cap, bs, hM⟩ := h
  have c0 := hM.top
  have hn32 := hM.le
  go_enter Tryz.func54, Tryz.ntmps54
  go_wp2
  go_loopw [7] (fun v wx => ∃ c : Nat, c ≤ n ∧ v = .int .i64 c ∧ (∀ c', c' < c → ¬ MeetB n R a b c') ∧ w = wx) (fun v _ => n - (intOf v).toNat)
  case atStart => exact ⟨0, by omega, rfl, fun c' h => by omega, rfl⟩
  case round =>
    obtain ⟨c, hcn, rfl, hall, rfl⟩ := hrel
    have HALL := Lib.hid hall
    clear hall
    by_cases hc : c < n
    · have hc' : (c : Int) < (n : Int) := by omega
      have ha' : (a : Int) < (n : Int) := by omega
      have hb' : (b : Int) < (n : Int) := by omega
      have ha0 : (0 : Int) ≤ (a : Int) := by omega
      have hb0 : (0 : Int) ≤ (b : Int) := by omega
      have hc0 : (0 : Int) ≤ (c : Int) := by omega
      have ra := hM.rows ha
      have rb := hM.rows hb
      have rc := hM.rows hc
      have dac := hM.cell hc ha
      have dbc := hM.cell hc hb
      go_upto_region 4 with fail
      go_cut [8] (fun v wx => (∃ B : Bool, v = .bool B ∧ (B = true ↔ (R c a = true ∧ R c b = true))) ∧ w = wx)
      case first =>
        cases h1 : R c a with
        | true =>
          cases h2 : R c b with
          | true =>
            rw [h1] at dac
            rw [h2] at dbc
            have H12 := Lib.hid (And.intro h1 h2)
            clear h1 h2
            go_wp2
            go_meet
            exact ⟨⟨true, rfl, fun _ => H12.out, fun _ => rfl⟩, rfl⟩
          | false =>
            rw [h1] at dac
            rw [h2] at dbc
            have H2 := Lib.hid h2
            clear h1 h2
            go_wp2
            go_meet
            exact ⟨⟨false, rfl, fun h => absurd h (by simp), fun h => absurd h.2 (by rw [H2.out]; simp)⟩, rfl⟩
        | false =>
          rw [h1] at dac
          have H1 := Lib.hid h1
          clear h1
          go_wp2
          go_meet
          exact ⟨⟨false, rfl, fun h => absurd h (by simp), fun h => absurd h.1 (by rw [H1.out]; simp)⟩, rfl⟩
      case rest =>
        obtain ⟨⟨B, rfl, hB⟩, rfl⟩ := hcut
        have HB := Lib.hid hB
        clear hB dac dbc
        go_wp2
        go_loopw [8, 9] (fun v i wx => ∃ (d : Nat) (B : Bool), d ≤ n ∧ v = .bool B ∧ i = .int .i64 d ∧ (B = true ↔ ((R c a = true ∧ R c b = true) ∧ ∀ d', d' < d → R d' a = true → R d' b = true → R d' c = true)) ∧ w = wx) (fun _ i _ => n - (intOf i).toNat)
        case atStart => exact ⟨0, B, by omega, rfl, rfl, by rw [HB.out]; simp, rfl⟩
        case round =>
          clear HB
          obtain ⟨d, B2, hdn, rfl, rfl, hB, rfl⟩ := hrel
          have HB := Lib.hid hB
          clear hB
          cases B2 with
          | false =>
            have HN := Lib.hid (show ¬ MeetB n R a b c from fun h => Bool.false_ne_true (HB.out.2 ⟨⟨h.1, h.2.1⟩, fun d' hd' => h.2.2 d' (by omega)⟩))
            by_cases hd : d < n
            · have hd' : (d : Int) < (n : Int) := by omega
              go_wp2
              go_roundw
              case rel => exact ⟨c + 1, by omega, by go_num, fun c' hc' => (by by_cases e : c' = c; (· subst e; exact HN.out); (· exact HALL.out c' (by omega))), by trivial⟩
              case measure => simp [intOf]; omega
            · have hd' : ¬ (d : Int) < (n : Int) := by omega
              go_wp2
              go_roundw
              case rel => exact ⟨c + 1, by omega, by go_num, fun c' hc' => (by by_cases e : c' = c; (· subst e; exact HN.out); (· exact HALL.out c' (by omega))), by trivial⟩
              case measure => simp [intOf]; omega
          | true =>
            have HT := Lib.hid (HB.out.1 rfl)
            clear HB
            by_cases hd : d < n
            · have hd' : (d : Int) < (n : Int) := by omega
              have hd0 : (0 : Int) ≤ (d : Int) := by omega
              have rd := hM.rows hd
              have dcd := hM.cell hd hc
              have dad := hM.cell hd ha
              have dbd := hM.cell hd hb
              have HN := Lib.hid (show ∀ B : Bool, (B = true ↔ (R d a = true → R d b = true → R d c = true)) → (B = true ↔ ((R c a = true ∧ R c b = true) ∧ ∀ d', d' < d + 1 → R d' a = true → R d' b = true → R d' c = true)) from fun B hB => by
                rw [hB]
                exact ⟨fun h => ⟨HT.out.1, fun d' hd' => (by by_cases e : d' = d; (· subst e; exact h); (· exact HT.out.2 d' (by omega)))⟩, fun h => h.2 d (by omega)⟩)
              clear HT
              cases h1 : R d c with
              | true =>
                rw [h1] at dcd HN
                clear h1
                go_wp2
                go_roundw
                case rel => exact ⟨d + 1, true, by omega, rfl, by go_num, HN.out true (by simp), by trivial⟩
                case measure => simp [intOf]; omega
              | false =>
                rw [h1] at dcd HN
                clear h1
                cases h2 : R d a with
                | false =>
                  rw [h2] at dad HN
                  clear h2
                  go_wp2
                  go_roundw
                  case rel => exact ⟨d + 1, true, by omega, rfl, by go_num, HN.out true (by simp), by trivial⟩
                  case measure => simp [intOf]; omega
                | true =>
                  rw [h2] at dad HN
                  clear h2
                  cases h3 : R d b with
                  | false =>
                    rw [h3] at dbd HN
                    clear h3
                    go_wp2
                    go_roundw
                    case rel => exact ⟨d + 1, true, by omega, rfl, by go_num, HN.out true (by simp), by trivial⟩
                    case measure => simp [intOf]; omega
                  | true =>
                    rw [h3] at dbd HN
                    clear h3
                    go_wp2
                    go_roundw
                    case rel => exact ⟨d + 1, false, by omega, rfl, by go_num, HN.out false (by simp), by trivial⟩
                    case measure => simp [intOf]; omega
            · have hd' : ¬ (d : Int) < (n : Int) := by omega
              have HY := Lib.hid (show MeetB n R a b c from ⟨HT.out.1.1, HT.out.1.2, fun d' hd' => HT.out.2 d' (by omega)⟩)
              go_wp2
              go_ret
              exact ⟨(c : Int), rfl, ⟨fun h => absurd h (by omega), fun h => absurd ⟨c, hc, HY.out⟩ h⟩, rfl⟩
    · have HN := Lib.hid (show ¬ MeetE n R a b from fun ⟨c', h1, h2⟩ => HALL.out c' (by omega) h2)
      go_wp2
      go_ret
      exact ⟨-1, rfl, ⟨fun _ => HN.out, fun _ => by omega⟩, rfl⟩
end
end Go.Proofs.YteamnchoddegpaaGreatDoor
namespace Go.Proofs.YteamnchoddegpaaGreatDoor
open Go.RowKit Go.Maps
set_option maxHeartbeats 3200000
/-- A matrix in rows of truth values. -/
def Thing.mat (bs : List Nat) (n : Nat) (R : Rel) : Thing :=
  ⟨bs, [], fun w => bs.Nodup ∧ ∀ i b, bs[i]? = some b → w.rowIs b 4 n (fun j => .bool (R i j)), fun _ _ h hk => ⟨h.1, fun i b hb => (h.2 i b hb).of_block (hk b (.inl (List.mem_of_getElem? hb)))⟩⟩
section
variable {w0 wr w' : World} {ts : List Thing} {bs : List Nat} {n : Nat} {R R' : Rel}
theorem Lab.mat_nil (h : Lab w0 wr ts) (n : Nat) (R : Rel) : Lab w0 wr (Thing.mat [] n R :: ts) := by
  refine h.new (s := Thing.mat [] n R) (Below.refl _ _) ⟨List.nodup_nil, fun i b hb => by simp at hb⟩ (fun k hk => ?_) (fun k hk => ?_) (fun k hk => ?_)
  · simp [Thing.mat] at hk
  · simp [Thing.mat] at hk
  · simp [Thing.mat] at hk
theorem Lab.mat_congr (h : Lab w0 wr (Thing.mat bs n R :: ts)) (hR : ∀ i j, i < bs.length → j < n → R' i j = R i j) : Lab w0 wr (Thing.mat bs n R' :: ts) :=
  h.say (s' := Thing.mat bs n R') rfl (fun _ hk => hk) fun hh => ⟨hh.1, fun i b hb => World.rowIs.congr (hh.2 i b hb) fun j hj => by rw [hR i j (List.getElem?_eq_some_iff.1 hb).1 hj]⟩
theorem Lab.mat_row (h : Lab w0 wr (Thing.mat bs n R :: ts)) {i b : Nat} (hb : bs[i]? = some b) : wr.rowIs b 4 n (fun j => .bool (R i j)) := h.head.2 i b hb
theorem Lab.mat_cell (h : Lab w0 wr (Thing.mat bs n R :: ts)) {i b : Nat} (hb : bs[i]? = some b) {j : Nat} (hj : j < n) : wr.cell? ⟨b, j, none⟩ = some (.bool (R i j)) := (h.mat_row hb).cell hj
theorem Lab.mat_more (h : Lab w0 wr (Thing.mat bs n R :: ts)) (hR : ∀ i j, i < bs.length → j < n → R' i j = R i j) (h0 : ∀ j, j < n → R' bs.length j = false) :
    Lab w0 (wr.alloc (.cells (madeCells #[.bool false] n) 4)) (Thing.mat (bs ++ [wr.heap.size]) n R' :: ts) := by
  have hhi : ∀ k, k ∈ bs → k < wr.heap.size := fun k hk => h.high (Thing.mat bs n R) (by simp) k (.inl hk)
  have hb := below_new wr (.cells (madeCells #[.bool false] n) 4)
  refine h.turn (s' := Thing.mat (bs ++ [wr.heap.size]) n R') (Touch.of_below hb _) ⟨?_, fun i b hb' => ?_⟩ (fun k hk => ?_) (fun k hk => by simp [Thing.mat] at hk) (fun k hk => ?_)
  · rw [List.nodup_append]
    refine ⟨h.head.1, by simp, fun a ha b hb => ?_⟩
    have := hhi a ha
    simp at hb
    omega
  · rcases Nat.lt_or_ge i bs.length with hi | hi
    · rw [List.getElem?_append_left hi] at hb'
      have := rowIs_later (h.mat_row hb') hb
      exact World.rowIs.congr this fun j hj => by rw [hR i j hi hj]
    · rw [List.getElem?_append_right hi] at hb'
      have hi' : i = bs.length := by
        have := (List.getElem?_eq_some_iff.1 hb').1
        simp at this
        omega
      subst hi'
      simp at hb'
      subst hb'
      refine ⟨_, heap_alloc_new _ _, by simp [madeCells], fun j hj => ?_⟩
      rw [madeCells_at _ _ _ hj]
      show _ = some (Value.bool (R' bs.length j))
      rw [h0 j hj]
      simp [Nat.mod_one]
  · rcases List.mem_append.1 hk with h1 | h1
    · exact .inl h1
    · simp at h1; right; omega
  · rcases hk with hk | hk
    · rcases List.mem_append.1 hk with h1 | h1
      · have := hhi k h1; simp; omega
      · simp at h1; simp; omega
    · simp [Thing.mat] at hk
theorem Lab.mat_set (h : Lab w0 wr (Thing.mat bs n R :: ts)) {i b j : Nat} (hb : bs[i]? = some b) (v : Bool) (hR : ∀ i' j', R' i' j' = if i' = i ∧ j' = j then v else R i' j') :
    Lab w0 (wr.setCell ⟨b, j, none⟩ (.bool v)) (Thing.mat bs n R' :: ts) := by
  refine h.turn (s' := Thing.mat bs n R') ⟨rfl, rfl, rfl, by rw [World.size_setCell]; exact Nat.le_refl _, fun k hk hn => heap_setCell_other _ _ _ _ (fun e => hn (by rw [e]; exact List.mem_of_getElem? hb))⟩ ⟨h.head.1, fun i' b' hb' => ?_⟩ (fun k hk => .inl hk) (fun k hk => .inl hk) (fun k hk => ?_)
  · by_cases e : i' = i
    · subst e
      rw [hb] at hb'
      obtain rfl := Option.some.inj hb'
      have := (h.mat_row hb).set j (.bool v)
      refine World.rowIs.congr this fun j' hj' => ?_
      show (if j' = j then Value.bool v else Value.bool (R i' j')) = Value.bool (R' i' j')
      rw [hR i' j']
      by_cases e2 : j' = j
      · rw [if_pos e2, if_pos ⟨rfl, e2⟩]
      · rw [if_neg e2, if_neg (fun h => e2 h.2)]
    · have hne : b' ≠ b := fun e2 => by
        subst e2
        exact e ((List.getElem?_inj (List.getElem?_eq_some_iff.1 hb').1 h.head.1).1 (hb'.trans hb.symm))
      have := (h.mat_row hb').of_block (heap_setCell_other wr ⟨b, j, none⟩ b' (.bool v) hne)
      refine World.rowIs.congr this fun j' hj' => ?_
      show Value.bool (R i' j') = Value.bool (R' i' j')
      rw [hR i' j', if_neg (fun h => e h.1)]
  · rw [World.size_setCell]
    exact h.high (Thing.mat bs n R) (by simp) k hk
theorem Lab.nil_row (h : Lab w0 wr ts) (E : Nat) : Lab w0 wr (Thing.row E 1 (.slice none 0 0) 0 [] :: ts) := h.new_row (Below.refl _ _) (World.ownsRow_nil _ _ _ _)
theorem row_some {E m cap : Nat} {ao : Option Addr} {cells : List Value} (h : (Thing.row E 1 (.slice ao m cap) m cells).holds wr) (h0 : 0 < m) : ∃ g, ao = some ⟨g, 0, none⟩ := by
  have h' : wr.ownsRow 0 E 1 (.slice ao m cap) m cells := h
  rcases h'.2 with ⟨h1, h2⟩ | ⟨g, c2, cur, h1, -⟩
  · omega
  · simp only [Value.slice.injEq] at h1; exact ⟨g, h1.1⟩
theorem row_cellAt {E g m cap : Nat} {cells : List Value} (h : (Thing.row E 1 (.slice (some ⟨g, 0, none⟩) m cap) m cells).holds wr) {j : Nat} (hj : j < m) : wr.cell? ⟨g, j, none⟩ = cells[j]? ∧ wr.frozen? ⟨g, j, none⟩ = false :=
  ⟨World.ownsRow.cellAt h j (by omega), World.ownsRow.frozenAt h j⟩
/-- One value is appended to a list of one's own. -/
theorem run_append_row {ao : Option Addr} {c m : Nat} {cells : List Value} {u : Value} (T ty E bytes : Nat) (z : Value)
    (h : Lab w0 wr (Thing.row E 1 (.slice ao m c) m cells :: ts)) {nb : Nat} (hnb : wr.heap.size = nb) (hu : u.oneCell' = true)
    (ht : Tryz.prog.underlying T = some (.slice E)) (hi : (Tryz.prog.info? E).map (fun i => (i.zero, i.size, i.bytes)) = some (some z, 1, bytes)) (hz : z.cells.size = 1) (hbt : bytes ≤ 1000) (hn : m ≤ 999999999) :
    ∃ a' c' w', (Builtin.append_ #[T, T] ty #[.slice ao m c, .slice (some ⟨nb, 0, none⟩) 1 1]).run Tryz.prog (wr.alloc (.cells #[u] E)) = .ok (.slice a' (m + 1) c') w' ∧ Lab w0 w' (Thing.row E 1 (.slice a' (m + 1) c') (m + 1) (cells ++ [u]) :: ts) := by
  subst hnb
  have hl := h.later (below_new wr (.cells #[u] E))
  have hown : (wr.alloc (.cells #[u] E)).ownsRow 0 E 1 (.slice ao m c) m cells := hl.head
  have hsrc := srcOf_new wr u E
  have h1 : ∀ v ∈ [u], v.oneCell' = true := by intro v hv; simp at hv; rw [hv]; exact hu
  obtain ⟨v', w', hr, h2, h3⟩ := run_append_src (P := Tryz.prog) (wr.alloc (.cells #[u] E)) 0 T ty E 1 bytes z ht hi hz (by decide) hbt _ _ m 1 _ [u] hown hsrc h1 (by omega) (Nat.zero_le _)
  have blk := append_block (P := Tryz.prog) (T := T) (ty := ty) (bytes := bytes) (z := z) ht hi hbt hown hsrc h1 (by decide) (by omega) hr
  obtain ⟨a', c', rfl⟩ : ∃ a' c', v' = .slice a' (m + 1) c' := by
    rcases h2.2 with ⟨_, h0⟩ | ⟨g, cap, cur, rfl, _⟩
    · omega
    · exact ⟨_, _, rfl⟩
  refine ⟨a', c', w', hr, ?_⟩
  refine hl.turn (s' := Thing.row E 1 (.slice a' (m + 1) c') (m + 1) (cells ++ [u])) ⟨h3.os, h3.tape, h3.output, h3.size, fun b hb hn => h3.block b hb (fun e => hn (by simp [Thing.row, ← e]))⟩ h2 (fun k hk => ?_) (fun k hk => by simp [Thing.row] at hk) (fun k hk => ?_)
  · have hk' : (Value.slice a' (m + 1) c').ownBlock = some k := by simpa [Thing.row] using hk
    exact (blk k hk').imp (fun e => by simp [Thing.row, e]) id
  · rcases hk with hk | hk
    · exact (World.ownsRow.lt h2 k (by simpa [Thing.row] using hk)).2
    · simp [Thing.row] at hk
/-- What only reads, walked as a quiet thing, stands still. -/
theorem wpStill_of_quiet {P : Program} {ops : Array Oper} {w : World} {Q : Act → Prop} : ∀ (l : List Oper) (a : Act), wpQuiet P ops (fun w' => w' = w) Q l a → wpStill P ops w Q l a
  | [], _, h => h
  | o :: rest, a, h => by
    unfold wpQuiet at h
    unfold wpStill
    split
    · rename_i hw
      rw [if_pos hw] at h
      obtain ⟨v, hv, hn⟩ := h
      have hv' := hv w rfl
      unfold Oper.quietAt at hv'
      unfold Oper.still
      generalize (execOp a.eval o).run P w = r at hv' ⊢
      have hnext := wpStill_of_quiet rest _ hn
      unfold Oper.quietUpon at hv'
      unfold Oper.stillUpon
      split at hv'
      · obtain ⟨rfl, rfl⟩ := hv'
        exact ⟨rfl, hnext⟩
      · obtain ⟨rfl, rfl⟩ := hv'
        exact ⟨rfl, hnext⟩
      · obtain ⟨rfl, hc⟩ := hv'
        exact ⟨rfl, v, hc, hnext⟩
      · exact hv'.elim
    · rename_i hw
      rw [if_neg hw] at h
      exact wpStill_of_quiet rest _ h
/-- A region that only reads, but for its tail, which is a forced chain. -/
theorem wp_region_quiet_tail {P : Program} {id : Nat} {Q : Exit → Act → World → Prop} {a : Act} {w : World} {l : List Oper} (n : Nat) (hm : P.follows .mixedOrders = true) (hB : Region.lexTailB .any l.toArray n = true)
    (h : wpQuiet P l.toArray (fun w' => w' = w.drew) (fun a' => wpList P l.toArray Q (l.drop n) a' w.drew) (l.take n) a) : (Code.region id l.toArray true).wp P Q a w :=
  wp_region_still_tail n hm hB (wpStill_of_quiet _ _ h)
theorem Tryz.infoBools : (Tryz.prog.info? 84).map (fun i => (i.zero, i.size, i.bytes)) = some (some (.slice none 0 0), 1, 24) := by kernel_rfl
end
end Go.Proofs.YteamnchoddegpaaGreatDoor
namespace Go.Proofs.YteamnchoddegpaaGreatDoor
open Go.RowKit Go.Maps
set_option maxHeartbeats 3200000
/-- Several things, as one. -/
def Thing.bundle (fs : List Thing) : Thing :=
  ⟨fs.flatMap (·.W), fs.flatMap (·.R), fun w => (∀ f ∈ fs, f.holds w) ∧ fs.Pairwise Apart, fun w w' h hk =>
    ⟨fun f hf => f.keep w w' (h.1 f hf) fun k hm => hk k (hm.imp (fun hm => List.mem_flatMap.2 ⟨f, hf, hm⟩) fun hm => List.mem_flatMap.2 ⟨f, hf, hm⟩), h.2⟩⟩
section
variable {w0 wr w' : World} {fs ts : List Thing}
theorem Lab.bundle (h : Lab w0 wr (fs ++ ts)) : Lab w0 wr (Thing.bundle fs :: ts) := by
  obtain ⟨p1, p2, p3⟩ := List.pairwise_append.1 h.apart
  have hm : ∀ f ∈ fs, f ∈ fs ++ ts := fun f hf => List.mem_append.2 (.inl hf)
  have hm2 : ∀ t ∈ ts, t ∈ fs ++ ts := fun f hf => List.mem_append.2 (.inr hf)
  refine ⟨h.below, fun t ht => ?_, fun t ht k hk => ?_, fun t ht k hk => ?_, List.pairwise_cons.2 ⟨fun t ht => ⟨fun k hk => ?_, fun k hk => ?_⟩, p2⟩⟩
  · rcases List.mem_cons.1 ht with rfl | ht
    · exact ⟨fun f hf => h.holds f (hm f hf), p1⟩
    · exact h.holds t (hm2 t ht)
  · rcases List.mem_cons.1 ht with rfl | ht
    · obtain ⟨f, hf, hx⟩ := List.mem_flatMap.1 hk
      exact h.low f (hm f hf) k hx
    · exact h.low t (hm2 t ht) k hk
  · rcases List.mem_cons.1 ht with rfl | ht
    · rcases hk with hk | hk
      · obtain ⟨f, hf, hx⟩ := List.mem_flatMap.1 hk
        exact h.high f (hm f hf) k (.inl hx)
      · obtain ⟨f, hf, hx⟩ := List.mem_flatMap.1 hk
        exact h.high f (hm f hf) k (.inr hx)
    · exact h.high t (hm2 t ht) k hk
  · obtain ⟨f, hf, hx⟩ := List.mem_flatMap.1 hk
    exact (p3 f hf t ht).1 k hx
  · obtain ⟨f, hf, hx⟩ := List.mem_flatMap.1 hk
    exact (p3 f hf t ht).2 k hx
theorem Lab.unbundle (h : Lab w0 wr (Thing.bundle fs :: ts)) : Lab w0 wr (fs ++ ts) := by
  have hh := h.head
  obtain ⟨p1, p2⟩ := List.pairwise_cons.1 h.apart
  have hW : ∀ f ∈ fs, ∀ k, k ∈ f.W → k ∈ (Thing.bundle fs).W := fun f hf k hk => List.mem_flatMap.2 ⟨f, hf, hk⟩
  have hR : ∀ f ∈ fs, ∀ k, k ∈ f.R → k ∈ (Thing.bundle fs).R := fun f hf k hk => List.mem_flatMap.2 ⟨f, hf, hk⟩
  refine ⟨h.below, fun t ht => ?_, fun t ht k hk => ?_, fun t ht k hk => ?_, List.pairwise_append.2 ⟨hh.2, p2, fun f hf t ht => ⟨fun k hk => (p1 t ht).1 k (hW f hf k hk), fun k hk => (p1 t ht).2 k (hR f hf k hk)⟩⟩⟩
  · rcases List.mem_append.1 ht with ht | ht
    · exact hh.1 t ht
    · exact h.holds t (by simp [ht])
  · rcases List.mem_append.1 ht with ht | ht
    · exact h.low (Thing.bundle fs) (by simp) k (hW t ht k hk)
    · exact h.low t (by simp [ht]) k hk
  · rcases List.mem_append.1 ht with ht | ht
    · exact h.high (Thing.bundle fs) (by simp) k (hk.imp (hW t ht k) (hR t ht k))
    · exact h.high t (by simp [ht]) k hk
end
/-- A list of numbers of one's own. -/
def Thing.numsK (k : IntKind) (E : Nat) (v : Value) (xs : List Int) : Thing := Thing.row E 1 v xs.length (xs.map (Value.int k))
def innerT (k : IntKind) (E : Nat) (vs : List Value) (xss : List (List Int)) (i : Nat) : Thing := Thing.numsK k E (vs.getD i undef) (xss.getD i [])
/-- A list of lists of numbers. -/
def Thing.lists (k : IntKind) (E Es : Nat) (v : Value) (vs : List Value) (xss : List (List Int)) : Thing := Thing.bundle (Thing.row Es 1 v vs.length vs :: (List.range vs.length).map (innerT k E vs xss))
section
variable {w0 wr w' : World} {ts : List Thing} {k : IntKind} {E Es : Nat} {v : Value} {vs : List Value} {xss : List (List Int)} {c : Nat}
/-- All of a list of lists but one row of it. -/
def restT (k : IntKind) (E : Nat) (vs : List Value) (xss : List (List Int)) (c : Nat) : Thing := Thing.bundle (((List.range vs.length).erase c).map (innerT k E vs xss))
theorem range_take (f : Nat → Thing) {c n : Nat} (h : c < n) : ((List.range n).map f).Perm (f c :: ((List.range n).erase c).map f) := (List.perm_cons_erase (List.mem_range.2 h)).map f
theorem Lab.lists_open (hc : c < vs.length) (h : Lab w0 wr (Thing.lists k E Es v vs xss :: ts)) :
    Lab w0 wr (innerT k E vs xss c :: Thing.row Es 1 v vs.length vs :: restT k E vs xss c :: ts) := by
  have h1 := h.unbundle.perm (ts' := ((List.range vs.length).erase c).map (innerT k E vs xss) ++ (innerT k E vs xss c :: Thing.row Es 1 v vs.length vs :: ts)) ?_
  · exact h1.bundle.rot3'
  · refine (List.Perm.cons _ ((range_take (innerT k E vs xss) hc).append_right ts)).trans ?_
    refine (List.Perm.swap _ _ _).trans ?_
    exact (List.Perm.trans (.cons _ List.perm_middle.symm) List.perm_middle.symm)
theorem rest_set (u : Value) (ys : List Int) : restT k E (vs.set c u) (xss.set c ys) c = restT k E vs xss c := by
  unfold restT
  congr 1
  rw [List.length_set]
  refine List.map_congr_left fun i hi => ?_
  have hne : i ≠ c := fun e => by
    subst e
    exact (List.Nodup.not_mem_erase List.nodup_range) hi
  unfold innerT
  congr 1
  · simp only [List.getD_eq_getElem?_getD, List.getElem?_set]
    rw [if_neg (Ne.symm hne)]
  · simp only [List.getD_eq_getElem?_getD, List.getElem?_set]
    rw [if_neg (Ne.symm hne)]
theorem inner_set {u : Value} {ys : List Int} (hc : c < vs.length) (hl : xss.length = vs.length) : innerT k E (vs.set c u) (xss.set c ys) c = Thing.numsK k E u ys := by
  unfold innerT
  simp only [List.getD_eq_getElem?_getD, List.getElem?_set]
  simp only [if_true]
  rw [if_pos hc, if_pos (by omega)]
  rfl
theorem Lab.lists_shut {u : Value} {ys : List Int} (hc : c < vs.length) (hl : xss.length = vs.length) (h : Lab w0 wr (Thing.numsK k E u ys :: Thing.row Es 1 v vs.length (vs.set c u) :: restT k E vs xss c :: ts)) :
    Lab w0 wr (Thing.lists k E Es v (vs.set c u) (xss.set c ys) :: ts) := by
  rw [← rest_set u ys, ← inner_set hc hl] at h
  unfold Thing.lists
  refine Lab.bundle ?_
  have h1 := h.rot3
  unfold restT at h1
  refine h1.unbundle.perm ?_
  rw [List.length_set]
  refine (List.perm_append_comm).trans ?_
  simp only [List.cons_append]
  refine (List.Perm.swap _ _ _).trans (List.Perm.cons _ ?_)
  refine (List.Perm.cons _ List.perm_append_comm).trans ?_
  exact ((range_take (innerT k E (vs.set c u) (xss.set c ys)) hc).append_right ts).symm
theorem Lab.lists_row (h : Lab w0 wr (Thing.lists k E Es v vs xss :: ts)) : wr.ownsRow 0 Es 1 v vs.length vs := h.head.1 (Thing.row Es 1 v vs.length vs) List.mem_cons_self
theorem Lab.lists_inner (h : Lab w0 wr (Thing.lists k E Es v vs xss :: ts)) (hc : c < vs.length) : OwnInts wr 0 E k (vs.getD c undef) (xss.getD c []) :=
  h.head.1 (innerT k E vs xss c) (List.mem_cons_of_mem _ (List.mem_map.2 ⟨c, List.mem_range.2 hc, rfl⟩))
theorem Lab.joined {wx : World} {us : List Thing} (h : Lab w0 wr ts) (hu : Lab wr wx us) (hR : ∀ u ∈ us, u.R = []) : Lab w0 wx (us ++ ts) := by
  have hl := h.later hu.below
  refine ⟨hl.below, fun t ht => ?_, fun t ht k hk => ?_, fun t ht => ?_, List.pairwise_append.2 ⟨hu.apart, hl.apart, fun u h1 t h2 => ⟨fun k hk => ⟨fun h3 => ?_, fun h3 => ?_⟩, fun k hk h3 => ?_⟩⟩⟩
  · rcases List.mem_append.1 ht with h1 | h1
    · exact hu.holds t h1
    · exact hl.holds t h1
  · rcases List.mem_append.1 ht with h1 | h1
    · exact Nat.le_trans h.below.size (hu.low t h1 k hk)
    · exact hl.low t h1 k hk
  · rcases List.mem_append.1 ht with h1 | h1
    · exact hu.high t h1
    · exact hl.high t h1
  · have := hu.low u h1 k hk; have := h.high t h2 k (.inl h3); omega
  · have := hu.low u h1 k hk; have := h.high t h2 k (.inr h3); omega
  · rw [hR u h1] at hk; cases hk
theorem lists_R : (Thing.lists k E Es v vs xss).R = [] := by
  unfold Thing.lists Thing.bundle
  refine List.flatMap_eq_nil_iff.2 fun f hf => ?_
  rcases List.mem_cons.1 hf with rfl | hf
  · rfl
  · obtain ⟨i, -, rfl⟩ := List.mem_map.1 hf
    rfl
theorem Lab.make_row (h : Lab w0 wr ts) (n T : Nat) (z : Value) (hn : n ≤ maxLen) : Lab w0 (wr.alloc (.cells (madeCells #[z] n) T)) (Thing.row T 1 (.slice (some ⟨wr.heap.size, 0, none⟩) n n) n (List.replicate n z) :: ts) := by
  refine h.new_row (below_new wr _) ⟨by simp, .inr ⟨_, n, _, rfl, Nat.le_refl _, heap_alloc_new wr _, Nat.le_refl _, hn, by simp [madeCells], ?_⟩⟩
  refine List.ext_getElem? fun i => ?_
  rw [Nat.mul_one, List.getElem?_take, List.getElem?_replicate]
  split
  · rename_i hi
    rw [Array.getElem?_toList, madeCells_at _ _ i hi]
    simp [Nat.mod_one]
  · rfl
theorem Lab.nils (h : Lab w0 wr ts) : ∀ m, Lab w0 wr (List.replicate m (Thing.numsK k E (.slice none 0 0) []) ++ ts)
  | 0 => h
  | m + 1 => by
    have := (Lab.nils h m).new_row (E := E) (size := 1) (n := 0) (v := .slice none 0 0) (cells := []) (Below.refl _ _) (World.ownsRow_nil _ _ _ _)
    exact this
theorem Lab.lists_nil {n : Nat} (h : Lab w0 wr (Thing.row Es 1 v n (List.replicate n (.slice none 0 0)) :: ts)) : Lab w0 wr (Thing.lists k E Es v (List.replicate n (.slice none 0 0)) (List.replicate n []) :: ts) := by
  unfold Thing.lists
  refine Lab.bundle ?_
  have e : (List.range (List.replicate n (Value.slice none 0 0)).length).map (innerT k E (List.replicate n (.slice none 0 0)) (List.replicate n [])) = List.replicate n (Thing.numsK k E (.slice none 0 0) []) := by
    rw [List.length_replicate]
    refine List.ext_getElem? fun i => ?_
    rw [List.getElem?_map, List.getElem?_replicate]
    by_cases hi : i < n
    · rw [List.getElem?_range hi, if_pos hi]
      unfold innerT
      simp [List.getD_eq_getElem?_getD, List.getElem?_replicate, hi]
    · rw [if_neg hi, List.getElem?_eq_none (by simp; omega)]
      rfl
  rw [e, List.length_replicate]
  exact (Lab.nils h n).perm List.perm_middle
/-- Lists of lists, as what is read. -/
def NumsOf (w : World) (k : IntKind) (v : Value) (xss : List (List Int)) : Prop :=
  ∃ a n cap, v = .slice a n cap ∧ xss.length = n ∧ ∀ i, i < n → ∃ b off xs va, a = some ⟨b, off, none⟩ ∧ xss[i]? = some xs ∧ w.cell? ⟨b, off + i, none⟩ = some va ∧ SliceOf w k va xs
theorem row_shape {w : World} {B E size n : Nat} {v : Value} {cells : List Value} (h : w.ownsRow B E size v n cells) : ∃ a cap, v = .slice a n cap ∧ (0 < n → ∃ g, a = some ⟨g, 0, none⟩) := by
  rcases h.2 with ⟨rfl, h0⟩ | ⟨g, cap, cur, rfl, -⟩
  · subst h0
    exact ⟨_, _, rfl, fun h => by omega⟩
  · exact ⟨_, _, rfl, fun _ => ⟨g, rfl⟩⟩
theorem Lab.lists_read (hl : xss.length = vs.length) (h : Lab w0 wr (Thing.lists k E Es v vs xss :: ts)) : NumsOf wr k v xss := by
  have hr := h.lists_row
  obtain ⟨a, cap, rfl, ha⟩ := row_shape hr
  refine ⟨a, _, cap, rfl, hl, fun i hi => ?_⟩
  obtain ⟨g, rfl⟩ := ha (by omega)
  have hin := (h.lists_inner hi).slice
  have hcell := World.ownsRow.cellAt hr i (by omega)
  rw [List.getElem?_eq_getElem hi] at hcell
  refine ⟨g, 0, xss.getD i [], vs.getD i undef, rfl, ?_, ?_, hin⟩
  · rw [List.getD_eq_getElem?_getD, List.getElem?_eq_getElem (by omega)]; rfl
  · rw [Nat.zero_add, hcell, List.getD_eq_getElem?_getD, List.getElem?_eq_getElem hi]; rfl
theorem Lab.numsK_none (h : Lab w0 wr ts) : Lab w0 wr (Thing.numsK k E (.slice none 0 0) [] :: ts) :=
  h.new_row (E := E) (size := 1) (n := 0) (v := .slice none 0 0) (cells := []) (Below.refl _ _) (World.ownsRow_nil _ _ _ _)
theorem Lab.append1 {ao : Option Addr} {m c : Nat} {ys : List Int} (T ty bytes : Nat) (x : Int) (hy : ys.length = m) (h : Lab w0 wr (Thing.numsK k E (.slice ao m c) ys :: ts))
    (ht : Tryz.prog.underlying T = some (.slice E)) (hi : (Tryz.prog.info? E).map (fun i => (i.zero, i.size, i.bytes)) = some (some (.int k 0), 1, bytes)) (hbt : bytes ≤ 1000) (hn : m ≤ 999999999) :
    ∃ a' c' w', (Builtin.append_ #[T, T] ty #[.slice ao m c, .slice (some ⟨wr.heap.size, 0, none⟩) 1 1]).run Tryz.prog (wr.alloc (.cells #[.int k x] E)) = .ok (.slice a' (m + 1) c') w' ∧ Lab w0 w' (Thing.numsK k E (.slice a' (m + 1) c') (ys ++ [x]) :: ts) := by
  unfold Thing.numsK at h
  rw [hy] at h
  obtain ⟨a', c', w', hr, hl⟩ := run_append_row T ty E bytes (.int k 0) h rfl (u := .int k x) rfl ht hi rfl hbt hn
  refine ⟨a', c', w', hr, ?_⟩
  unfold Thing.numsK
  rw [List.length_append, hy, List.map_append]
  exact hl
theorem Lab.lists_len {ao : Option Addr} {m c : Nat} (h : Lab w0 wr (Thing.lists k E Es (.slice ao m c) vs xss :: ts)) : m = vs.length := by
  obtain ⟨a, cap, e, -⟩ := row_shape h.lists_row
  simp only [Value.slice.injEq] at e
  exact e.2.1
end
end Go.Proofs.YteamnchoddegpaaGreatDoor
