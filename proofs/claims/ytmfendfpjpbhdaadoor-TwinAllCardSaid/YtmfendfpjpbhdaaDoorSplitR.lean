/- The reference's Inputs and Split; whether two lists of lists are equal. -/
import Derived.Test.YtmfendfpjpbhdaaDoorSplitD
namespace Go.Proofs.YtmfendfpjpbhdaaDoor
open Go.RowKit Go.Maps
set_option maxHeartbeats 3200000

def full (f : Nat → Nat → Int) (n c : Nat) : List (List Int) := (List.range c).map fun c' => (List.range n).map (f c')
theorem full_len (f : Nat → Nat → Int) (n c : Nat) : (full f n c).length = c := by simp [full]
theorem full_next (f : Nat → Nat → Int) (n c : Nat) : full f n c ++ [(List.range n).map (f c)] = full f n (c + 1) := by unfold full; rw [List.range_succ, List.map_append]; rfl
theorem part_full (f : Nat → Nat → Int) (N n : Nat) : part f N n N 0 = full f n N := by
  unfold part full
  refine List.map_congr_left fun i hi => ?_
  rw [if_pos (List.mem_range.1 hi)]
theorem map_next (g : Nat → Int) (k : Nat) : (List.range k).map g ++ [g k] = (List.range (k + 1)).map g := by rw [List.range_succ, List.map_append]; rfl
theorem Tryd.infoNums' : (Tryd.prog.info? 36).map (fun i => (i.zero, i.size, i.bytes)) = some (some (.slice none 0 0), 1, 24) := by kernel_rfl
section
variable {w0 wq wr w' : World} {ts : List Thing}
/-- A row is appended to a list of lists. -/
theorem Lab.append_lists {ao lo : Option Addr} {m c n lc : Nat} {vs : List Value} {xss : List (List Int)} {ys : List Int} (hm : vs.length = m) (hx : xss.length = m)
    (h : Lab w0 wr (Thing.numsK .u64 44 (.slice lo n lc) ys :: Thing.lists .u64 44 36 (.slice ao m c) vs xss :: ts)) (hn : m ≤ 999999999) :
    ∃ a' c' w', (Builtin.append_ #[38, 38] 38 #[.slice ao m c, .slice (some ⟨wr.heap.size, 0, none⟩) 1 1]).run Tryd.prog (wr.alloc (.cells #[.slice lo n lc] 36)) = .ok (.slice a' (m + 1) c') w' ∧
      Lab w0 w' (Thing.lists .u64 44 36 (.slice a' (m + 1) c') (vs ++ [.slice lo n lc]) (xss ++ [ys]) :: ts) := by
  have h1 := (Lab.lists_row_open h.swap).rot3
  subst hm
  obtain ⟨a', c', w', hr, hl⟩ := run_append_row 38 38 36 24 (.slice none 0 0) h1.swap rfl (u := .slice lo n lc) rfl Tryd.underlying38 Tryd.infoNums' rfl (by decide) hn
  exact ⟨a', c', w', hr, Lab.lists_more hx hl⟩
set_option maxRecDepth 100000 in
theorem Lab.inputs (h : Lab w0 wq ts) {vv : Value} {vals : List Int} (hv : SliceOf w0 .u64 vv vals) {N n : Nat} (hl1 : 1 ≤ N) (hl2 : N ≤ 32) (hn : n ≤ 65536) :
    Calls Tryd.prog 26 #[.int .i64 N, .int .i64 n, vv] wq fun e w' => ∃ v vs, e = .returned (.tuple #[v, .int .i64 0]) ∧ vs.length = N ∧ Lab w0 w' (Thing.lists .u64 44 36 v vs (full (valA N vals) n N) :: ts) := by
  have h0 : Lab w0 wq (Thing.lists .u64 44 36 (.slice none 0 0) [] (full (valA N vals) n 0) :: ts) := h.lists_none
  have H0 := Lib.hid h0; have HV := Lib.hid hv
  have q1 : ¬ (N : Int) < 1 := by omega
  have q2 : ¬ (32 : Int) < (N : Int) := by omega
  have q3 : ¬ (n : Int) < 0 := by omega
  have q4 : ¬ (65536 : Int) < (n : Int) := by omega
  obtain ⟨av, nv, cv, rfl, -, -⟩ := hv.parts
  clear h h0 hv
  go_enter Tryd.func26, Tryd.ntmps26
  go_wp2
  clear q1 q2 q3 q4
  go_loopw [8, 9] (fun o i wx => ∃ c : Nat, c ≤ N ∧ i = .int .i64 c ∧ ∃ a cc vs, o = .slice a c cc ∧ vs.length = c ∧ Lab w0 wx (Thing.lists .u64 44 36 (.slice a c cc) vs (full (valA N vals) n c) :: ts)) (fun _ i _ => N - (intOf i).toNat)
  case atStart => exact ⟨0, by omega, rfl, none, 0, [], rfl, rfl, H0.out⟩
  case round =>
    clear H0
    obtain ⟨c, hc, rfl, a, cc, vs, rfl, hvs, hl⟩ := hrel
    by_cases hlt : c < N
    · have hlt' : (c : Int) < (N : Int) := by omega
      have h0 : Lab w0 wr (Thing.numsK .u64 44 (.slice none 0 0) ((List.range 0).map (valA N vals c)) :: Thing.lists .u64 44 36 (.slice a c cc) vs (full (valA N vals) n c) :: ts) := hl.numsK_none
      have H0 := Lib.hid h0; have HVS := Lib.hid hvs
      clear hl h0 hvs
      go_wp2
      go_loopw [10, 11] (fun o i wx => ∃ k : Nat, k ≤ n ∧ i = .int .i64 k ∧ ∃ a1 c1, o = .slice a1 k c1 ∧ Lab w0 wx (Thing.numsK .u64 44 (.slice a1 k c1) ((List.range k).map (valA N vals c)) :: Thing.lists .u64 44 36 (.slice a c cc) vs (full (valA N vals) n c) :: ts)) (fun _ i _ => n - (intOf i).toNat)
      case atStart => exact ⟨0, by omega, rfl, none, 0, rfl, H0.out⟩
      case round =>
        clear H0
        obtain ⟨k, hk, rfl, a1, c1, rfl, hl⟩ := hrel
        by_cases hltk : k < n
        · have hltk' : (k : Int) < (n : Int) := by omega
          obtain ⟨m, hm⟩ : ∃ m, 2 * (k * N + c) = m := ⟨_, rfl⟩
          have hi := rinput_any wr N c k hl2 hlt (by omega)
          rw [hm] at hi
          have hval := rvalue_any (HV.out.later hl.below) m
          have hx : valAt vals m = valA N vals c k := by unfold valA; rw [hm]
          rw [hx] at hval
          obtain ⟨a2, c2, w2, hr, hl2'⟩ := hl.append1 36 36 8 (valA N vals c k) (by simp) Tryd.underlying36 Tryd.infoU64 (by decide) (by omega)
          rw [map_next] at hl2'
          have HI := Lib.hid hi; have HVAL := Lib.hid hval; have HR := Lib.hid hr; have HL := Lib.hid hl2'
          clear hi hm hval hx hr hl2' hl
          generalize valA N vals c k = x at HVAL HR
          go_wp2_with (first | (go_at_call 27; refine HI.out.mono ?_; rintro e w5 ⟨rfl, rfl⟩) | (go_at_call 28; refine HVAL.out.mono ?_; rintro e w5 ⟨rfl, rfl⟩) | (at_builtin; refine Lib.wpList_append_run _ rfl _ _ 36 36 rfl _ _ rfl rfl _ _ HR.out ?_))
          go_roundw
          case rel => exact ⟨k + 1, by omega, by go_num, _, _, rfl, HL.out⟩
          case measure => simp [intOf]; omega
        · obtain rfl : k = n := by omega
          obtain ⟨a2, c2, w2, hr, hl2'⟩ := Lab.append_lists HVS.out (full_len _ _ _) hl (by omega)
          rw [full_next] at hl2'
          have HR := Lib.hid hr; have HL := Lib.hid hl2'
          clear hr hl2' hl
          go_wp2_with (at_builtin; refine Lib.wpList_append_run _ rfl _ _ 38 38 rfl _ _ rfl rfl _ _ HR.out ?_)
          go_roundw
          case rel => exact ⟨c + 1, by omega, by go_num, _, _, _, rfl, by rw [List.length_append, HVS.out]; rfl, HL.out⟩
          case measure => simp [intOf]; omega
    · obtain rfl : c = N := by omega
      have HL := Lib.hid hl; have HVS := Lib.hid hvs
      clear hl hvs
      go_wp2
      go_ret2
      exact ⟨_, _, rfl, HVS.out, HL.out⟩
set_option maxRecDepth 100000 in
theorem rsplit_bad {xb nl : Nat} {R : Rel} (hm : MatIs wq xb nl R) {level n : Int} {chv vv : Value} {ls vals : List Int} (hch : SliceOf wq .i64 chv ls) (hv : SliceOf wq .u64 vv vals) (he : splE nl level ls n ≠ 0) :
    Calls Tryd.prog 13 #[.pointer (some ⟨xb, 0, none⟩), .int .i64 level, chv, .int .i64 n, vv] wq fun e w' => e = .returned (.tuple #[.slice none 0 0, .slice none 0 0, .int .i64 3]) ∧ Below wq.heap.size wq w' := by
  have HC := Lib.hid (check_any hm level hch)
  obtain ⟨ac, nc, cc, rfl, -, -⟩ := hch.parts
  obtain ⟨av, nv, cv, rfl, -, -⟩ := hv.parts
  clear hm hch hv
  by_cases hm : mayE nl level ls = 0
  · have hn : n < 0 ∨ 65536 < n := by
      unfold splE at he
      rw [if_neg (by omega)] at he
      by_cases h : n < 0 ∨ 65536 < n
      · exact h
      · rw [if_neg h] at he; exact absurd rfl he
    rw [hm] at HC
    clear hm he
    by_cases h1 : n < 0
    · clear hn
      go_enter Tryd.func13, Tryd.ntmps13
      go_wp2_with (go_at_call 22; refine HC.out.mono ?_; rintro e w2 ⟨rfl, hb⟩)
      go_ret3
      exact ⟨rfl, hb⟩
    · have h2 : 65536 < n := by omega
      clear hn
      go_enter Tryd.func13, Tryd.ntmps13
      go_wp2_with (go_at_call 22; refine HC.out.mono ?_; rintro e w2 ⟨rfl, hb⟩)
      go_ret3
      exact ⟨rfl, hb⟩
  · have hm3 := (may_cases nl level ls).resolve_left hm
    rw [hm3] at HC
    clear hm hm3 he
    go_enter Tryd.func13, Tryd.ntmps13
    go_wp2_with (go_at_call 22; refine HC.out.mono ?_; rintro e w2 ⟨rfl, hb⟩)
    go_ret3
    exact ⟨rfl, hb⟩
set_option maxRecDepth 100000 in
theorem Lab.rsplit (h : Lab w0 wq ts) {xb nl N n : Nat} {R : Rel} (hmat : MatIs w0 xb nl R) {level : Int} {chv vv : Value} {ls vals : List Int} (hch : SliceOf w0 .i64 chv ls) (hv : SliceOf w0 .u64 vv vals) (hm : mayE nl level ls = 0) (hn : n ≤ 65536) (hls : ls.length = N) :
    Calls Tryd.prog 13 #[.pointer (some ⟨xb, 0, none⟩), .int .i64 level, chv, .int .i64 n, vv] wq fun e w' => ∃ va vb vsa vsb, e = .returned (.tuple #[va, vb, .int .i64 0]) ∧ vsa.length = N ∧ vsb.length = N ∧
      Lab w0 w' (Thing.lists .u64 44 36 vb vsb (full (valB N nl R level ls vals) n N) :: Thing.lists .u64 44 36 va vsa (full (valA N vals) n N) :: ts) := by
  have hcheck := check_any (hmat.later h.below) level (hch.later h.below)
  rw [hm] at hcheck
  have hl1 := may_len hm
  obtain ⟨ac, no, cc, rfl, hno, -⟩ := hch.parts
  obtain ⟨av, nv, cv, rfl, -, -⟩ := hv.parts
  obtain rfl : no = N := by omega
  have hN1 : 1 ≤ no := by omega
  have hN2 : no ≤ 32 := by omega
  have q1 : ¬ (n : Int) < 0 := by omega
  have q2 : ¬ (65536 : Int) < (n : Int) := by omega
  have HC := Lib.hid hcheck; have H := Lib.hid h; have HA := Lib.hid (And.intro hmat (And.intro hch (And.intro hv (And.intro hm hls))))
  clear h hcheck hl1 hmat hch hv hm hls hno
  go_enter Tryd.func13, Tryd.ntmps13
  go_wp2_with fail
  go_at_call 22
  refine HC.out.mono ?_
  rintro e w1 ⟨rfl, hb⟩
  have HI0 := Lib.hid ((H.out.later hb).inputs HA.out.2.2.1 hN1 hN2 hn)
  clear hb H HC
  go_wp2_with fail
  go_at_call 26
  refine HI0.out.mono ?_
  rintro e w2 ⟨va, vsa, rfl, hva, hl⟩
  have h0 : Lab w0 w2 (Thing.lists .u64 44 36 (.slice none 0 0) [] (full (valB no nl R level ls vals) n 0) :: Thing.lists .u64 44 36 va vsa (full (valA no vals) n no) :: ts) := hl.lists_none
  have H0 := Lib.hid h0; have HVA := Lib.hid hva
  clear hl h0 hva HI0 q1 q2
  go_wp2
  go_loopw [16, 17] (fun o i wx => ∃ c : Nat, c ≤ no ∧ i = .int .i64 c ∧ ∃ a cc vs, o = .slice a c cc ∧ vs.length = c ∧ Lab w0 wx (Thing.lists .u64 44 36 (.slice a c cc) vs (full (valB no nl R level ls vals) n c) :: Thing.lists .u64 44 36 va vsa (full (valA no vals) n no) :: ts)) (fun _ i _ => no - (intOf i).toNat)
  case atStart => exact ⟨0, by omega, rfl, none, 0, [], rfl, rfl, H0.out⟩
  case round =>
    clear H0
    obtain ⟨c, hc, rfl, a, cc, vs, rfl, hvs, hl⟩ := hrel
    by_cases hlt : c < no
    · have hlt' : (c : Int) < (no : Int) := by omega
      have h0 : Lab w0 wr (Thing.numsK .u64 44 (.slice none 0 0) ((List.range 0).map (valB no nl R level ls vals c)) :: Thing.lists .u64 44 36 (.slice a c cc) vs (full (valB no nl R level ls vals) n c) :: Thing.lists .u64 44 36 va vsa (full (valA no vals) n no) :: ts) := hl.numsK_none
      have H0 := Lib.hid h0; have HVS := Lib.hid hvs
      clear hl h0 hvs
      go_wp2
      go_loopw [18, 19] (fun o i wx => ∃ k : Nat, k ≤ n ∧ i = .int .i64 k ∧ ∃ a1 c1, o = .slice a1 k c1 ∧ Lab w0 wx (Thing.numsK .u64 44 (.slice a1 k c1) ((List.range k).map (valB no nl R level ls vals c)) :: Thing.lists .u64 44 36 (.slice a c cc) vs (full (valB no nl R level ls vals) n c) :: Thing.lists .u64 44 36 va vsa (full (valA no vals) n no) :: ts)) (fun _ i _ => n - (intOf i).toNat)
      case atStart => exact ⟨0, by omega, rfl, none, 0, rfl, H0.out⟩
      case round =>
        clear H0
        obtain ⟨k, hk, rfl, a1, c1, rfl, hl⟩ := hrel
        by_cases hltk : k < n
        · have hltk' : (k : Int) < (n : Int) := by omega
          obtain ⟨m, hm⟩ : ∃ m, 2 * (k * no + c) = m := ⟨_, rfl⟩
          have hmb : m ≤ 4194302 := by
            have : k * no ≤ 65535 * 32 := Nat.mul_le_mul (by omega) hN2
            have : k * no + c ≤ 65535 * no + (no - 1) := by
              have : k * no ≤ 65535 * no := Nat.mul_le_mul_right _ (by omega)
              omega
            have : 65535 * no ≤ 65535 * 32 := Nat.mul_le_mul_left _ hN2
            omega
          have hi := rinput_any wr no c k hN2 hlt (by omega)
          rw [hm] at hi
          obtain ⟨q, hq⟩ : ∃ q : Nat, ofR nl R level ls (m : Int) = (q : Int) := by
            rcases ofR_or nl R level ls (m : Int) with h | h
            · exact ⟨m, h⟩
            · exact ⟨m + 1, by omega⟩
          have hvar := rvar35_any (HA.out.1.later hl.below) level (HA.out.2.1.later hl.below) (m : Int)
          have hE : varE nl level ls (m : Int) = 0 := by unfold varE; rw [if_neg (by rw [HA.out.2.2.2.1]; decide), if_neg (by omega), if_neg (by omega)]
          have hN : varN nl R level ls (m : Int) = (q : Int) := by unfold varN; rw [if_pos hE, hq]
          rw [hE, hN] at hvar
          have hx : valAt vals q = valB no nl R level ls vals c k := by unfold valB; rw [hm, hq, Int.toNat_natCast]
          have HI := Lib.hid hi; have HL0 := Lib.hid hl; have HVAR := Lib.hid hvar; have HX := Lib.hid hx
          clear hi hm hx hl hvar hE hN hq hmb
          go_wp2_with (first | (go_at_call 27; refine HI.out.mono ?_; rintro e w5 ⟨rfl, rfl⟩))
          go_at_call 11
          refine HVAR.out.mono ?_
          rintro e w5 ⟨rfl, hb⟩
          have hl := HL0.out.later hb
          have hval := rvalue_any (HA.out.2.2.1.later hl.below) q
          rw [HX.out] at hval
          obtain ⟨a2, c2, w2, hr, hl2'⟩ := hl.append1 36 36 8 (valB no nl R level ls vals c k) (by simp) Tryd.underlying36 Tryd.infoU64 (by decide) (by omega)
          rw [map_next] at hl2'
          have HVAL := Lib.hid hval; have HR := Lib.hid hr; have HL := Lib.hid hl2'
          clear hb hl hval hr hl2' HL0 HX
          generalize valB no nl R level ls vals c k = x at HVAL HR
          go_wp2_with (first | (go_at_call 28; refine HVAL.out.mono ?_; rintro e w5 ⟨rfl, rfl⟩) | (at_builtin; refine Lib.wpList_append_run _ rfl _ _ 36 36 rfl _ _ rfl rfl _ _ HR.out ?_))
          go_roundw
          case rel => exact ⟨k + 1, by omega, by go_num, _, _, rfl, HL.out⟩
          case measure => simp [intOf]; omega
        · obtain rfl : k = n := by omega
          obtain ⟨a2, c2, w2, hr, hl2'⟩ := Lab.append_lists HVS.out (full_len _ _ _) hl (by omega)
          rw [full_next] at hl2'
          have HR := Lib.hid hr; have HL := Lib.hid hl2'
          clear hr hl2' hl
          go_wp2_with (at_builtin; refine Lib.wpList_append_run _ rfl _ _ 38 38 rfl _ _ rfl rfl _ _ HR.out ?_)
          go_roundw
          case rel => exact ⟨c + 1, by omega, by go_num, _, _, _, rfl, by rw [List.length_append, HVS.out]; rfl, HL.out⟩
          case measure => simp [intOf]; omega
    · obtain rfl : c = no := by omega
      have HL := Lib.hid hl; have HVS := Lib.hid hvs
      clear hl hvs
      go_wp2
      go_ret3
      exact ⟨_, _, _, _, rfl, HVA.out, HVS.out, HL.out⟩
end
end Go.Proofs.YtmfendfpjpbhdaaDoor
