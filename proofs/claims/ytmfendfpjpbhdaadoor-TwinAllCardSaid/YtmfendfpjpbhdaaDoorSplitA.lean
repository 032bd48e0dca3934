/- Package twin, Split: what it calls, and what the reference calls. -/
import Derived.Test.YtmfendfpjpbhdaaDoorLists
import Derived.Test.YtmfendfpjpbhdaaDoorTwinA
import Derived.Test.YtmfendfpjpbhdaaDoorOrdT
namespace Go.Proofs.YtmfendfpjpbhdaaDoor
open Go.RowKit Go.Maps
set_option maxHeartbeats 3200000

set_option maxRecDepth 100000 in
theorem input_any (w : World) (n c k : Nat) (h2 : n ≤ 32) (hc : c < n) (hk : k < 65536) :
    Calls Tryd.prog 15 #[.int .i64 n, .int .i64 c, .int .i64 k] w fun e w' => e = .returned (.tuple #[.int .i64 (2 * (k * n + c) : Nat), .int .i64 0]) ∧ w = w' := by
  obtain ⟨m, hm⟩ : ∃ m, k * n = m := ⟨_, rfl⟩
  have hmb : m ≤ 65536 * 32 := by rw [← hm]; exact Nat.mul_le_mul (by omega) h2
  have e1 : (k : Int) * (n : Int) = (m : Int) := by rw [← hm]; simp
  have e2 : IntKind.i64.wrap (m : Int) = (m : Int) := by simp [IntKind.wrap, IntKind.bits, IntKind.signed]; omega
  have e3 : IntKind.i64.wrap ((m : Int) + (c : Int)) = (m : Int) + (c : Int) := by simp [IntKind.wrap, IntKind.bits, IntKind.signed]; omega
  have e4 : IntKind.i64.wrap (2 * ((m : Int) + (c : Int))) = 2 * ((m : Int) + (c : Int)) := by simp [IntKind.wrap, IntKind.bits, IntKind.signed]; omega
  have q1 : ¬ (n : Int) < 1 := by omega
  have q2 : ¬ (32 : Int) < (n : Int) := by omega
  have q3 : ¬ (n : Int) ≤ (c : Int) := by omega
  have q4 : ¬ (65536 : Int) ≤ (k : Int) := by omega
  have q5 : ¬ (c : Int) < 0 := by omega
  have q6 : ¬ (k : Int) < 0 := by omega
  rw [hm, show ((2 * (m + c) : Nat) : Int) = 2 * ((m : Int) + (c : Int)) by omega]
  clear hm hmb h2 hc hk
  go_enter Tryd.func15, Tryd.ntmps15
  go_wp2
  go_ret2
  exact ⟨rfl, rfl⟩
set_option maxRecDepth 100000 in
theorem rinput_any (w : World) (n c k : Nat) (h2 : n ≤ 32) (hc : c < n) (hk : k < 65536) :
    Calls Tryd.prog 27 #[.int .i64 n, .int .i64 c, .int .i64 k] w fun e w' => e = .returned (.tuple #[.int .i64 (2 * (k * n + c) : Nat), .int .i64 0]) ∧ w = w' := by
  obtain ⟨m, hm⟩ : ∃ m, k * n = m := ⟨_, rfl⟩
  have hmb : m ≤ 65536 * 32 := by rw [← hm]; exact Nat.mul_le_mul (by omega) h2
  have e1 : (k : Int) * (n : Int) = (m : Int) := by rw [← hm]; simp
  have e2 : IntKind.i64.wrap (m : Int) = (m : Int) := by simp [IntKind.wrap, IntKind.bits, IntKind.signed]; omega
  have e3 : IntKind.i64.wrap ((m : Int) + (c : Int)) = (m : Int) + (c : Int) := by simp [IntKind.wrap, IntKind.bits, IntKind.signed]; omega
  have e4 : IntKind.i64.wrap (2 * ((m : Int) + (c : Int))) = 2 * ((m : Int) + (c : Int)) := by simp [IntKind.wrap, IntKind.bits, IntKind.signed]; omega
  have q1 : ¬ (n : Int) < 1 := by omega
  have q2 : ¬ (32 : Int) < (n : Int) := by omega
  have q3 : ¬ (n : Int) ≤ (c : Int) := by omega
  have q4 : ¬ (65536 : Int) ≤ (k : Int) := by omega
  have q5 : ¬ (c : Int) < 0 := by omega
  have q6 : ¬ (k : Int) < 0 := by omega
  rw [hm, show ((2 * (m + c) : Nat) : Int) = 2 * ((m : Int) + (c : Int)) by omega]
  clear hm hmb h2 hc hk
  go_enter Tryd.func27, Tryd.ntmps27
  go_wp2
  go_ret2
  exact ⟨rfl, rfl⟩
/-- The value of a variable. -/
def valAt (vals : List Int) (n : Nat) : Int := vals.getD n 0
set_option maxRecDepth 100000 in
theorem rvalue_any {w : World} {v : Value} {vals : List Int} (hs : SliceOf w .u64 v vals) (n : Nat) :
    Calls Tryd.prog 28 #[v, .int .i64 n] w fun e w' => e = .returned (.int .u64 (valAt vals n)) ∧ w = w' := by
  obtain ⟨ao, no, co, rfl, hol, -⟩ := hs.parts
  have HS := Lib.hid hs
  have q0 : ¬ (n : Int) < 0 := by omega
  clear hs
  by_cases h : n < no
  · obtain ⟨b, off, x, rfl, hc, hx⟩ := HS.out.parts' h
    have hv : valAt vals n = x := by unfold valAt; rw [List.getD_eq_getElem?_getD, hx]; rfl
    rw [hv]
    have q1 : ¬ (no : Int) ≤ (n : Int) := by omega
    have q2 : (n : Int) < (no : Int) := by omega
    have q3 : (0 : Int) ≤ (n : Int) := by omega
    clear hx hv h HS hol
    go_enter Tryd.func28, Tryd.ntmps28
    go_wp2
    go_ret
    exact ⟨rfl, rfl⟩
  · have hv : valAt vals n = 0 := by unfold valAt; rw [List.getD_eq_getElem?_getD, List.getElem?_eq_none (by omega)]; rfl
    rw [hv]
    have q1 : (no : Int) ≤ (n : Int) := by omega
    clear hv h HS hol
    go_enter Tryd.func28, Tryd.ntmps28
    go_wp2
    go_ret
    exact ⟨rfl, rfl⟩
set_option maxRecDepth 100000 in
theorem value1_any {w : World} {v : Value} {vals : List Int} {p : Nat} (hs : SliceOf w .u64 v vals) (hp : w.cell? ⟨p, 0, none⟩ = some v) (n : Nat) :
    Calls Tryd.prog 24 #[.int .i64 n, .pointer (some ⟨p, 0, none⟩)] w fun e w' => e = .returned (.int .u64 (valAt vals n)) ∧ w = w' := by
  obtain ⟨ao, no, co, rfl, hol, -⟩ := hs.parts
  have HS := Lib.hid hs
  clear hs
  by_cases h : n < no
  · obtain ⟨b, off, x, rfl, hc, hx⟩ := HS.out.parts' h
    have hv : valAt vals n = x := by unfold valAt; rw [List.getD_eq_getElem?_getD, hx]; rfl
    rw [hv]
    have q2 : (n : Int) < (no : Int) := by omega
    have q3 : (0 : Int) ≤ (n : Int) := by omega
    clear hx hv h HS hol
    go_enter Tryd.func24, Tryd.ntmps24
    go_wp2
    go_ret
    exact ⟨rfl, rfl⟩
  · have hv : valAt vals n = 0 := by unfold valAt; rw [List.getD_eq_getElem?_getD, List.getElem?_eq_none (by omega)]; rfl
    rw [hv]
    have q1 : ¬ (n : Int) < (no : Int) := by omega
    clear hv h HS hol
    go_enter Tryd.func24, Tryd.ntmps24
    go_wp2
    go_ret
    exact ⟨rfl, rfl⟩
end Go.Proofs.YtmfendfpjpbhdaaDoor
