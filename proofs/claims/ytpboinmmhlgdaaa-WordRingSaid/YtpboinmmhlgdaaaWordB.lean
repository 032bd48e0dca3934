/- Arity, and the tables of package op and package word. -/
import Derived.Test.YtpboinmmhlgdaaaWordA
namespace Go.Proofs.Ytpboinmmhlgdaaa
open Go.RowKit
set_option maxHeartbeats 400000

def fillA (c : Nat) : Array Value := (List.replicate c (Value.int .u8 2) ++ List.replicate (22 - c) (Value.int .u8 0)).toArray
theorem fillA_zero : fillA 0 = #[.int .u8 0, .int .u8 0, .int .u8 0, .int .u8 0, .int .u8 0, .int .u8 0, .int .u8 0, .int .u8 0, .int .u8 0, .int .u8 0, .int .u8 0, .int .u8 0, .int .u8 0, .int .u8 0, .int .u8 0, .int .u8 0, .int .u8 0, .int .u8 0, .int .u8 0, .int .u8 0, .int .u8 0, .int .u8 0] := rfl
theorem fillA_full : fillA 22 = #[.int .u8 2, .int .u8 2, .int .u8 2, .int .u8 2, .int .u8 2, .int .u8 2, .int .u8 2, .int .u8 2, .int .u8 2, .int .u8 2, .int .u8 2, .int .u8 2, .int .u8 2, .int .u8 2, .int .u8 2, .int .u8 2, .int .u8 2, .int .u8 2, .int .u8 2, .int .u8 2, .int .u8 2, .int .u8 2] := rfl
theorem fillA_get {c : Nat} (h : c < 22) : (fillA c)[c]? = some (.int .u8 0) := by
  have : 22 - c ≠ 0 := by omega
  simp [fillA, List.getElem?_append, List.getElem?_replicate]; omega
theorem fillA_set {c : Nat} (h : c < 22) : (fillA c).setIfInBounds c (.int .u8 2) = fillA (c + 1) := by
  obtain ⟨k, hk⟩ : ∃ k, 22 - c = k + 1 := ⟨21 - c, by omega⟩
  have hk' : 22 - (c + 1) = k := by omega
  unfold fillA
  rw [hk, hk', List.replicate_succ, List.replicate_succ' (n := c)]
  simp 
def arTab : Array Value := #[.int .u8 0, .int .u8 0, .int .u8 1, .int .u8 1, .int .u8 2, .int .u8 2, .int .u8 2, .int .u8 2, .int .u8 2, .int .u8 2, .int .u8 2, .int .u8 2, .int .u8 2, .int .u8 2, .int .u8 2, .int .u8 2, .int .u8 2, .int .u8 2, .int .u8 2, .int .u8 2, .int .u8 2, .int .u8 3]

theorem fillA22 : ∀ i, i < 22 → (fillA 22)[i]? = some (.int .u8 2) := by
  intro i hi
  have e : fillA 22 = (List.replicate 22 (Value.int .u8 2)).toArray := rfl
  rw [e, List.getElem?_toArray, List.getElem?_replicate, if_pos hi]
theorem arTab_one : arTab.all (·.oneCell') = true := by decide +kernel
theorem below_setRow {B : Nat} {a w : World} (h : Below B a w) {g : Nat} (hg : B ≤ g) (cs : Array Value) : Below B a (w.setRow g cs) :=
  h.trans ⟨rfl, rfl, rfl, by simp, fun k hk => setRow_other _ _ _ _ (by omega)⟩
theorem arities_any (w : World) :
    Calls Try.prog 16 #[] w fun e w' => e = .returned (.agg arTab) ∧ Below w.heap.size w w' := by
  go_enter Try.func16, Try.ntmps16
  go_wp2
  go_loopw [3] (fun i wr => ∃ c : Nat, c ≤ 22 ∧ i = .int .i64 c ∧ wr = (w.alloc (.cells #[.int .u8 0, .int .u8 0, .int .u8 0, .int .u8 0, .int .u8 0, .int .u8 0, .int .u8 0, .int .u8 0, .int .u8 0, .int .u8 0, .int .u8 0, .int .u8 0, .int .u8 0, .int .u8 0, .int .u8 0, .int .u8 0, .int .u8 0, .int .u8 0, .int .u8 0, .int .u8 0, .int .u8 0, .int .u8 0] 52)).alloc (.cells (fillA c) 52)) (fun i _ => 22 - (intOf i).toNat)
  case atStart => exact ⟨0, by omega, rfl, by rw [fillA_zero]⟩
  case round =>
    obtain ⟨c, hc, rfl, rfl⟩ := hrel
    by_cases hlt : c < 22
    · have hg := fillA_get hlt
      have hs := fillA_set hlt
      go_wp2
      go_roundw
      case rel => exact ⟨c + 1, by omega, by go_num, rfl⟩
      case measure => simp [intOf]; omega
    · obtain rfl : c = 22 := by omega
      have g0 := fillA22 0 (by decide)
      have g1 := fillA22 1 (by decide)
      have g2 := fillA22 2 (by decide)
      have g3 := fillA22 3 (by decide)
      have g21 := fillA22 21 (by decide)
      go_wp2_with (first
        | (refine wpList_load_row rfl 52 _ rfl (w.heap.size + 1) rfl 52 arTab (0, 0) _ (heap_alloc2_new _ _ _) Try.underlying52 rfl (by kernel_rfl) ?_)
        | (refine wpList_store_row rfl 52 _ _ rfl w.heap.size arTab rfl rfl 52 _ (heap_alloc2_old _ _ _) (by kernel_rfl) rfl arTab_one ?_))
      refine bodyPost_ret (v := .agg arTab) (results_cell_row rfl _ _ w.heap.size 52 arTab (0, 0) _ rfl (setRow_heap _ _ _ _ _ _ (heap_alloc2_old _ _ _)) Try.underlying52 rfl (by kernel_rfl)) rfl ⟨rfl, ?_⟩
      exact below_setRow (((Below.refl _ _).alloc (Nat.le_refl _) _).alloc (by simp) _) (Nat.le_refl _) _

theorem run_index_arTab (n : Nat) (h : n ≤ 21) (w : World) : (Instr.index 52 (.agg arTab) (.int .u8 n)).run Try.prog w = .ok (.int .u8 (aryN n)) w := by
  have : n = 0 ∨ n = 1 ∨ n = 2 ∨ n = 3 ∨ n = 4 ∨ n = 5 ∨ n = 6 ∨ n = 7 ∨ n = 8 ∨ n = 9 ∨ n = 10 ∨ n = 11 ∨ n = 12 ∨ n = 13 ∨ n = 14 ∨ n = 15 ∨ n = 16 ∨ n = 17 ∨ n = 18 ∨ n = 19 ∨ n = 20 ∨ n = 21 := by omega
  rcases this with rfl | rfl | rfl | rfl | rfl | rfl | rfl | rfl | rfl | rfl | rfl | rfl | rfl | rfl | rfl | rfl | rfl | rfl | rfl | rfl | rfl | rfl <;> (show _ = _; kernel_rfl)
theorem aryN_le (n : Nat) : aryN n ≤ 3 := by
  unfold aryN
  (repeat' split) <;> omega

theorem arity_any (o : Int) (h0 : 0 ≤ o) (h1 : o ≤ 255) (w : World) :
    Calls Try.prog 13 #[.int .u8 o] w fun e w' => e = .returned (.tuple #[.int .i64 (if 21 < o then 0 else aryN o.toNat), .int .i64 (if 21 < o then 3 else 0)]) ∧ Below w.heap.size w w' := by
  obtain ⟨n, rfl⟩ := Int.eq_ofNat_of_zero_le h0
  by_cases hb : n ≤ 21
  · have hg := run_index_arTab n hb
    have ha := aryN_le n
    go_enter Try.func13, Try.ntmps13
    go_wp2_with (go_at_call 16; refine (arities_any _).mono ?_; rintro e w' ⟨rfl, hb'⟩)
    go_ret2
    have h : ¬ 21 < (n : Int) := by omega
    exact ⟨by simp, hb'⟩
  · go_enter Try.func13, Try.ntmps13
    go_wp2
    go_ret2
    have h : 21 < (n : Int) := by omega
    exact ⟨by simp , Below.refl _ _⟩
def opTab : Array Value := #[Value.nilFunc, Value.nilFunc, Value.nilFunc, Value.nilFunc, .func (.func 17) #[] #[], .func (.func 18) #[] #[], .func (.func 19) #[] #[], .func (.func 20) #[] #[], .func (.func 21) #[] #[], .func (.func 22) #[] #[], .func (.func 23) #[] #[], .func (.func 24) #[] #[], .func (.func 25) #[] #[], .func (.func 26) #[] #[], .func (.func 27) #[] #[], .func (.func 28) #[] #[], .func (.func 29) #[] #[], .func (.func 30) #[] #[], .func (.func 31) #[] #[], .func (.func 32) #[] #[], .func (.func 33) #[] #[], Value.nilFunc]
def opFn (o : Nat) : Nat :=
  match o with
  | 4 => 17
  | 5 => 18
  | 6 => 19
  | 7 => 20
  | 8 => 21
  | 9 => 22
  | 10 => 23
  | 11 => 24
  | 12 => 25
  | 13 => 26
  | 14 => 27
  | 15 => 28
  | 16 => 29
  | 17 => 30
  | 18 => 31
  | 19 => 32
  | 20 => 33
  | _ => 0
theorem opTab_one : opTab.all (·.oneCell') = true := by decide +kernel
set_option maxRecDepth 100000 in
theorem table_any (w : World) :
    Calls Try.prog 15 #[] w fun e w' => e = .returned (.agg opTab) ∧ Below w.heap.size w w' := by
  go_enter Try.func15, Try.ntmps15
  go_wp2_with (first
    | (refine wpList_build rfl 50 _ rfl (by kernel_rfl) ?_)
    | (refine wpList_store_row rfl 50 _ _ rfl w.heap.size opTab rfl (by kernel_rfl) 50 _ (heap_alloc_new _ _) (by kernel_rfl) rfl opTab_one ?_))
  refine bodyPost_ret (v := .agg opTab) (results_cell_row rfl _ _ w.heap.size 50 opTab (0, 0) _ (by kernel_rfl) (setRow_heap _ _ _ _ _ _ (heap_alloc_new _ _)) Try.underlying50 rfl (by kernel_rfl)) rfl ⟨rfl, ?_⟩
  exact below_setRow ((Below.refl _ _).alloc (Nat.le_refl _) _) (Nat.le_refl _) _
end Go.Proofs.Ytpboinmmhlgdaaa
