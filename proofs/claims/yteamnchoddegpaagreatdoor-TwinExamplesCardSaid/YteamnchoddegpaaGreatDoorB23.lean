/- TwSec, SupT, RawG: joined by wip/bundle.py. -/
import Derived.Test.YteamnchoddegpaaGreatDoorB1
import Derived.Test.YteamnchoddegpaaGreatDoorB2
import Derived.Test.YteamnchoddegpaaGreatDoorB3
import Derived.Test.YteamnchoddegpaaGreatDoorB4
import Derived.Test.YteamnchoddegpaaGreatDoorB5
import Derived.Test.YteamnchoddegpaaGreatDoorB6
import Derived.Test.YteamnchoddegpaaGreatDoorB7
import Derived.Test.YteamnchoddegpaaGreatDoorB8
import Derived.Test.YteamnchoddegpaaGreatDoorB9
import Derived.Test.YteamnchoddegpaaGreatDoorB10
import Derived.Test.YteamnchoddegpaaGreatDoorB11
import Derived.Test.YteamnchoddegpaaGreatDoorB12
import Derived.Test.YteamnchoddegpaaGreatDoorB13
import Derived.Test.YteamnchoddegpaaGreatDoorB14
import Derived.Test.YteamnchoddegpaaGreatDoorB15
import Derived.Test.YteamnchoddegpaaGreatDoorB16
import Derived.Test.YteamnchoddegpaaGreatDoorB17
import Derived.Test.YteamnchoddegpaaGreatDoorB18
import Derived.Test.YteamnchoddegpaaGreatDoorB19
import Derived.Test.YteamnchoddegpaaGreatDoorB20
import Derived.Test.YteamnchoddegpaaGreatDoorB21
import Derived.Test.YteamnchoddegpaaGreatDoorB22
import Derived.Deep.RegionHeld3
import Derived.OrdersHeld
import Derived.StillTail
import Derived.Laws.EntriesVeiled
namespace Go.Proofs.YteamnchoddegpaaGreatDoor
open Go.RowKit Go.Maps
set_option maxHeartbeats 3200000
/-- Whether there is an odd one, or one that is too great. -/
def oddL (l : List Int) : Bool := l.any fun v => decide (v % 2 = 1 ∨ 4194302 < v)
theorem oddL_not {l : List Int} (h : oddL l = false) (hp : ∀ v ∈ l, 0 ≤ v) : ∀ v ∈ l, v % 2 = 0 ∧ v ≤ 4194302 := fun v hv => by
  have h1 := List.any_eq_false.1 h v hv
  simp only [decide_eq_true_eq] at h1
  have := hp v hv
  omega
set_option maxRecDepth 100000 in
theorem odd_any {w : World} {v : Value} {l : List Int} (hs : SliceOf w .i64 v l) (hp : ∀ x ∈ l, 0 ≤ x) (hn : l.length ≤ 900000000) :
    Calls Tryz.prog 13 #[v] w fun e w' => e = .returned (.bool (oddL l)) ∧ w = w' := by
  obtain ⟨a, n, c, rfl, hl, -⟩ := hs.parts
  have HS := Lib.hid hs; have HP := Lib.hid hp; have HL := Lib.hid hl
  have hn9 : n ≤ 900000000 := by omega
  clear hs hp hl hn
  go_enter Tryz.func13, Tryz.ntmps13
  go_wp2
  go_loopw [3] (fun v wx => ∃ k : Nat, k ≤ n ∧ v = .int .i64 k ∧ w = wx ∧ oddL (l.take k) = false) (fun v _ => n - (intOf v).toNat)
  case atStart => exact ⟨0, by omega, rfl, rfl, rfl⟩
  case round =>
    obtain ⟨k, hk, rfl, rfl, ho⟩ := hrel
    by_cases hlt : k < n
    · have hlt' : (k : Int) < (n : Int) := by omega
      have k0 : (0 : Int) ≤ (k : Int) := by omega
      obtain ⟨b, off, q, rfl, hc, hq⟩ := HS.out.parts' hlt
      have hq0 : 0 ≤ q := HP.out q (List.mem_of_getElem? hq)
      have htk : l.take (k + 1) = l.take k ++ [q] := by rw [List.take_add_one, hq]; rfl
      by_cases hb : q % 2 = 1 ∨ 4194302 < q
      · have hod : oddL l = true := List.any_eq_true.2 ⟨q, List.mem_of_getElem? hq, decide_eq_true hb⟩
        have HOD := Lib.hid hod
        clear ho htk hq hod
        by_cases h1 : q % 2 = 1
        · have h1' : (q % 2 == 1) = true := by rw [beq_iff_eq]; exact h1
          clear hb h1
          go_wp2
          go_ret
          exact ⟨by rw [HOD.out]; rfl, rfl⟩
        · have h1' : (q % 2 == 1) = false := by rw [beq_eq_false_iff_ne]; exact h1
          have h2 : 4194302 < q := by omega
          clear hb h1
          go_wp2
          go_ret
          exact ⟨by rw [HOD.out]; rfl, rfl⟩
      · have h1' : (q % 2 == 1) = false := by rw [beq_eq_false_iff_ne]; omega
        have h2 : ¬ 4194302 < q := by omega
        have HO := Lib.hid (show oddL (l.take (k + 1)) = false by
          rw [htk]
          unfold oddL at ho ⊢
          rw [List.any_append, ho]
          simp only [List.any_cons, List.any_nil, Bool.or_false, Bool.false_or]
          exact decide_eq_false hb)
        clear ho htk hq hb
        go_wp2
        refine ⟨⟨k + 1, by omega, by go_num, by first | rfl | trivial, HO.out⟩, ?_⟩
        simp [intOf]; omega
    · obtain rfl : k = n := by omega
      rw [List.take_of_length_le (by rw [HL.out]; exact Nat.le_refl _)] at ho
      have HO := Lib.hid ho
      clear ho
      go_wp2
      go_ret
      exact ⟨by rw [HO.out]; rfl, rfl⟩
/-- The values of the variables of the second valuation. -/
def secV (nl : Nat) (R : Rel) (level : Int) (ls vals : List Int) (n : Nat) : Int := if varE nl level ls (n : Int) = 0 then valAt vals (ofR nl R level ls (n : Int)).toNat else 0
def secL (nl : Nat) (R : Rel) (level : Int) (ls vals : List Int) : List Int := (List.range (vals.length + 2)).map (secV nl R level ls vals)
theorem secL_at {nl : Nat} {R : Rel} {level : Int} {ls vals : List Int} {n : Nat} (hm : mayE nl level ls = 0) (h2 : (n : Int) % 2 = 0) (hb : (n : Int) ≤ 4194302) : valAt (secL nl R level ls vals) n = valAt vals (ofR nl R level ls (n : Int)).toNat := by
  have he : varE nl level ls (n : Int) = 0 := by unfold varE; rw [if_neg (fun h => h hm), if_neg (by omega), if_neg (by omega)]
  unfold valAt secL
  rw [List.getD_eq_getElem?_getD, List.getElem?_map]
  by_cases h : n < vals.length + 2
  · rw [List.getElem?_range h]
    show secV nl R level ls vals n = _
    unfold secV
    rw [if_pos he]
    rfl
  · rw [List.getElem?_eq_none (by rw [List.length_range]; omega)]
    have hge : vals.length ≤ (ofR nl R level ls (n : Int)).toNat := by
      rcases ofR_or nl R level ls (n : Int) with h | h <;> omega
    rw [List.getD_eq_getElem?_getD, List.getElem?_eq_none hge]
    rfl
theorem secL_u64 {nl : Nat} {R : Rel} {level : Int} {ls vals : List Int} (h : U64s vals) : U64s (secL nl R level ls vals) := fun x hx => by
  obtain ⟨n, -, rfl⟩ := List.mem_map.1 hx
  unfold secV valAt
  split
  · rw [List.getD_eq_getElem?_getD]
    cases e : vals[(ofR nl R level ls (n : Int)).toNat]? with
    | none => simp
    | some q => exact h q (List.mem_of_getElem? e)
  · simp
section
variable {w0 wr : World} {ts : List Thing}
set_option maxRecDepth 100000 in
theorem Lab.second_vals (h : Lab w0 wr ts) {xb nl : Nat} {R : Rel} (hmat : MatIs w0 xb nl R) {level : Int} {chv vv : Value} {ls vals : List Int} (hch : SliceOf w0 .i64 chv ls) (hv : SliceOf w0 .u64 vv vals) (hn : vals.length ≤ 1000) :
    Calls Tryz.prog 16 #[.pointer (some ⟨xb, 0, none⟩), .int .i64 level, chv, vv] wr fun e w' => ∃ a c, e = .returned (.slice a (secL nl R level ls vals).length c) ∧ Lab w0 w' (Thing.numsK .u64 43 (.slice a (secL nl R level ls vals).length c) (secL nl R level ls vals) :: ts) := by
  obtain ⟨ac, nc, cc, rfl, -, -⟩ := hch.parts
  obtain ⟨av, nv, cv, rfl, hnv, -⟩ := hv.parts
  have H := Lib.hid (h.numsK_none (k := .u64) (E := 43)); have HM := Lib.hid (And.intro hmat (And.intro hch hv)); have HNV := Lib.hid hnv
  obtain ⟨f, hf⟩ : ∃ f : Nat → Int, secV nl R level ls vals = f := ⟨_, rfl⟩
  have hlen : (secL nl R level ls vals).length = nv + 2 := by unfold secL; rw [List.length_map, List.length_range, hnv]
  have hsl : secL nl R level ls vals = (List.range (nv + 2)).map f := by unfold secL; rw [hf, hnv]
  rw [hlen, hsl]
  have HF := Lib.hid hf
  obtain ⟨ys, hys⟩ : ∃ ys, (List.range (nv + 2)).map f = ys := ⟨_, rfl⟩
  rw [hys]
  have HYS := Lib.hid hys
  have hn9 : nv ≤ 1000 := by omega
  have e2 : IntKind.i64.wrap ((nv : Int) + 2) = (nv : Int) + 2 := by simp [IntKind.wrap, IntKind.bits, IntKind.signed]; omega
  clear h hmat hch hv hf hlen hsl hnv hys hn
  go_enter Tryz.func16, Tryz.ntmps16
  go_wp2
  go_loopw [9, 10] (fun v9 v10 wx => ∃ k : Nat, k ≤ nv + 2 ∧ v10 = .int .i64 k ∧ ∃ a c, v9 = .slice a k c ∧ Lab w0 wx (Thing.numsK .u64 43 (.slice a k c) ((List.range k).map f) :: ts)) (fun _ v10 _ => nv + 2 - (intOf v10).toNat)
  case atStart => exact ⟨0, by omega, rfl, none, 0, rfl, H.out⟩
  case round =>
    clear H
    obtain ⟨k, hk, rfl, a, c, rfl, hl⟩ := hrel
    by_cases hlt : k < nv + 2
    · have hlt' : (k : Int) < (nv : Int) + 2 := by omega
      have hvar := rvar35_any (HM.out.1.later hl.below) level (HM.out.2.1.later hl.below) (k : Int)
      have HL := Lib.hid hl; have HV := Lib.hid hvar
      clear hl hvar
      have cases2 : (varE nl level ls (k : Int) = 0 ∧ ∃ q : Nat, varTw nl R level ls (k : Int) = (q : Int) ∧ f k = valAt vals q) ∨ (varE nl level ls (k : Int) ≠ 0 ∧ f k = 0) := by
        by_cases he : varE nl level ls (k : Int) = 0
        · refine .inl ⟨he, (ofR nl R level ls (k : Int)).toNat, ?_, ?_⟩
          · unfold varTw
            rw [if_pos he]
            rcases ofR_or nl R level ls (k : Int) with h | h <;> omega
          · rw [← HF.out]; unfold secV; rw [if_pos he]
        · refine .inr ⟨he, ?_⟩
          rw [← HF.out]; unfold secV; rw [if_neg he]
      rcases cases2 with ⟨he, q, hq, hfk⟩ | ⟨he, hfk⟩
      · rw [he, hq] at HV
        have HFK := Lib.hid hfk
        clear he hq hfk
        go_wp2_with fail
        go_at_call 43
        refine HV.out.mono ?_
        rintro e w1 ⟨rfl, hb1⟩
        have hl1 := HL.out.later hb1
        have hval := rvalue_any (HM.out.2.2.later hl1.below) q
        rw [← HFK.out] at hval
        obtain ⟨a2, c2, w2, hr, hl2⟩ := hl1.append1 25 25 8 (f k) (by simp) Tryz.underlying25 Tryz.infoU64 (by decide) (by omega)
        rw [map_next] at hl2
        have HVAL := Lib.hid hval; have HR := Lib.hid hr; have HL2 := Lib.hid hl2
        clear hl1 hval hr hl2 hb1 HL
        go_wp2_with (first | (go_at_call 44; refine HVAL.out.mono ?_; rintro e w5 ⟨rfl, rfl⟩) | (at_builtin; refine Lib.wpList_append_run _ rfl _ _ 25 25 rfl _ _ rfl rfl _ _ HR.out ?_))
        refine ⟨⟨k + 1, by omega, by go_num, a2, c2, rfl, HL2.out⟩, ?_⟩
        simp [intOf]; omega
      · have HFK := Lib.hid hfk
        have hne : (((varE nl level ls (k : Int) : Nat) : Int) == 0) = false := by rw [beq_eq_false_iff_ne]; omega
        obtain ⟨E, hE⟩ : ∃ E, varE nl level ls (k : Int) = E := ⟨_, rfl⟩
        obtain ⟨X, hX⟩ : ∃ X, varTw nl R level ls (k : Int) = X := ⟨_, rfl⟩
        rw [hE] at hne
        rw [hE, hX] at HV
        clear he hfk hE hX
        go_wp2_with fail
        go_at_call 43
        refine HV.out.mono ?_
        rintro e w1 ⟨rfl, hb1⟩
        have hl1 := HL.out.later hb1
        obtain ⟨a2, c2, w2, hr, hl2⟩ := hl1.append1 25 25 8 0 (by simp) Tryz.underlying25 Tryz.infoU64 (by decide) (by omega)
        have hmn := map_next f k
        rw [HFK.out] at hmn
        rw [hmn] at hl2
        have HR := Lib.hid hr; have HL2 := Lib.hid hl2
        clear hl1 hr hl2 hb1 hmn HL
        go_wp2_with (at_builtin; refine Lib.wpList_append_run _ rfl _ _ 25 25 rfl _ _ rfl rfl _ _ HR.out ?_)
        refine ⟨⟨k + 1, by omega, by go_num, a2, c2, rfl, HL2.out⟩, ?_⟩
        simp [intOf]; omega
    · obtain rfl : k = nv + 2 := by omega
      rw [HYS.out] at hl
      have HL := Lib.hid hl
      clear hl
      have hx : ¬ (((nv + 2 : Nat) : Int)) < (nv : Int) + 2 := by omega
      go_wp2
      go_ret
      exact ⟨_, _, rfl, HL.out⟩
end
end Go.Proofs.YteamnchoddegpaaGreatDoor
namespace Go.Proofs.YteamnchoddegpaaGreatDoor
open Go.RowKit Go.Maps
set_option maxHeartbeats 6400000
section
variable {w0 wr w' : World} {ts : List Thing} {F I : List Nat} {rb W room : Nat} {L : List PNode}
set_option maxRecDepth 100000 in
theorem Lab.roccursT (h : Lab w0 wr (Thing.rgraph F I rb W room L :: ts)) (v : Value) (us : List Int) (hv : ∀ wx, Lab w0 wx ts → SliceOf wx .i64 v us) (hn : us.length ≤ 9223372036854775807) :
    Calls Tryz.prog 40 #[.pointer (some ⟨rb, 0, none⟩), v] wr (ROccPost w0 F I rb W room L ts us) := by
  have hll : L.length ≤ 1048576 := by have := h.rgr.len; have := h.rgr.r2; omega
  have hwf := h.rgr.wf
  obtain ⟨va, n, vc, rfl, hvn, -⟩ := (hv _ h.drop).parts
  rw [hvn] at hn
  have hmk1 : ∀ w, (Instr.makeSlice 84 (.int .i64 (L.length : Int)) (.int .i64 (L.length : Int))).run Tryz.prog w = .ok (.slice (some ⟨w.heap.size, 0, none⟩) L.length L.length) (w.alloc (.cells (madeCells #[.bool false] L.length) 4)) :=
    run_make_row' (P := Tryz.prog) 84 4 (.bool false) 1 Tryz.underlying84 Tryz.infoBool rfl .i64 .i64 L.length (by omega) (by omega)
  obtain ⟨ob, hob⟩ : ∃ ob, wr.heap.size = ob := ⟨_, rfl⟩
  have hl1 := h.make1 L.length 4 (.bool false)
  rw [hob] at hl1
  obtain ⟨a0, cap0, -, -, c2, -⟩ := h.rgr.parts
  have HV := Lib.hid (And.intro hv hvn); have HL1 := Lib.hid hl1; have HWF := Lib.hid hwf
  clear h hl1 hv hvn hwf
  go_enter Tryz.func40, Tryz.ntmps40
  go_upto_region 4 with fail
  clear hob hmk1 c2
  refine wp_abs (fun w1 => Lab w0 w1 (Thing.fn ob 4 L.length (fun _ => .bool false) :: Thing.rgraph F I rb W room L :: ts)) HL1.out ?_
  clear HL1
  rintro w1 hl
  have HL1 := Lib.hid hl
  clear hl
  go_wp2
  go_loopw [7] (fun i wx => ∃ k : Nat, k ≤ n ∧ i = .int .i64 k ∧ InL L (us.take k) ∧ Lab w0 wx (Thing.fn ob 4 L.length (fun i => .bool (markA (fun _ => false) (us.take k) i)) :: Thing.rgraph F I rb W room L :: ts)) (fun i _ => n - (intOf i).toNat)
  case atStart => exact ⟨0, by omega, rfl, by simp [InL], by rw [List.take_zero, markA_nil]; exact HL1.out⟩
  case round =>
    obtain ⟨k, hk, rfl, hin, hl⟩ := hrel
    clear HL1
    by_cases hlt : k < n
    · have hlt' : (k : Int) < (n : Int) := by omega
      obtain ⟨b, off, x, rfl, hc, hx⟩ := (HV.out.1 _ hl.drop.drop).parts' hlt
      have hc1 := hc
      have hnext : us.take (k + 1) = us.take k ++ [x] := by rw [List.take_add_one, hx]; rfl
      have his := rIs_any hl.rgr2 x
      by_cases hxr : 0 ≤ x ∧ x < (L.length : Int)
      · rw [show isT L x = true from decide_eq_true hxr] at his
        obtain ⟨g2, rfl⟩ := Int.eq_ofNat_of_zero_le hxr.1
        have hg2 : (g2 : Int) < (L.length : Int) := hxr.2
        have d2 := hl.fn1.cell (i := g2) (by omega)
        have f2 := hl.fn1.frozen g2
        have HIS := Lib.hid his; have HL2 := Lib.hid hl; have HX := Lib.hid hx; have HIN := Lib.hid hin; have HN := Lib.hid hnext
        clear his hl hx hin hnext hxr hc
        go_wp2_with (go_at_call 69; refine HIS.out.mono ?_; rintro e w2 ⟨rfl, rfl⟩)
        go_roundw
        case rel =>
          have hl6 := (HL2.out.set g2 (.bool true)).fn_congr (g := fun i => .bool (markA (fun _ => false) (us.take (k + 1)) i)) (fun i _ => by rw [← markA_snoc HX.out]; by_cases e : i = g2 <;> simp [e])
          refine ⟨k + 1, by omega, by go_num, ?_, hl6⟩
          rw [HN.out]
          intro t ht
          rcases List.mem_append.1 ht with h1 | h1
          · exact HIN.out t h1
          · rw [List.mem_singleton.1 h1]; exact ⟨by omega, hg2⟩
        case measure => simp [intOf]; omega
      · rw [show isT L x = false from decide_eq_false hxr] at his
        have hno : ¬ InL L us := fun h => hxr (h x (List.mem_of_getElem? hx))
        have HIS := Lib.hid his; have HL2 := Lib.hid hl.drop
        clear his hl hx hin hnext hxr hc
        go_wp2_with (go_at_call 69; refine HIS.out.mono ?_; rintro e w2 ⟨rfl, rfl⟩)
        go_ret2
        exact ⟨fun h => absurd h hno, fun _ => ⟨rfl, HL2.out⟩⟩
    · obtain rfl : k = n := by omega
      have hlt' : ¬ (k : Int) < (k : Int) := by omega
      rw [List.take_of_length_le (by rw [HV.out.2]; exact Nat.le_refl _)] at hin hl
      have hst : markA (fun _ => false) us = fun i => us.any fun t => t.toNat == i := by funext i; simp [markA]
      rw [hst] at hl
      obtain ⟨a1, cap1, -, -, c2, -⟩ := hl.rgr2.parts
      have hwl : IntKind.i64.wrap ((L.length : Int) - 1) = (L.length : Int) - 1 := by simp [IntKind.wrap, IntKind.bits, IntKind.signed]; omega
      have HIN := Lib.hid hin; have HL3 := Lib.hid hl
      clear hin hl hst
      go_wp2
      clear c2 hwl
      go_loopw [8] (fun i wr => ∃ c : Int, -1 ≤ c ∧ c < (L.length : Int) ∧ i = .int .i64 c ∧ ∃ need, occDown L (c + 1).toNat need = occS L us ∧ Lab w0 wr (Thing.fn ob 4 L.length (fun i => .bool (need i)) :: Thing.rgraph F I rb W room L :: ts)) (fun i _ => (intOf i + 1).toNat)
      case atStart => exact ⟨(L.length : Int) - 1, by omega, by omega, rfl, fun i => us.any fun t => t.toNat == i, by rw [show ((L.length : Int) - 1 + 1).toNat = L.length by omega]; rfl, HL3.out⟩
      case round =>
        obtain ⟨c, hc0, hcM, rfl, need, hnd, hl⟩ := hrel
        clear HL3
        by_cases hcn : 0 ≤ c
        · obtain ⟨y, rfl⟩ := Int.eq_ofNat_of_zero_le hcn
          obtain ⟨nd, hi⟩ : ∃ nd, L[y]? = some nd := ⟨_, List.getElem?_eq_getElem (by omega)⟩
          rw [show ((y : Int) + 1).toNat = y + 1 by omega] at hnd
          have hok := (HWF.out.ok nd (List.mem_of_getElem? hi)).2.2
          have hary := aryN_le nd.1
          have hargs := HWF.out.args y nd hi
          have HL6 := Lib.hid hl; have HND := Lib.hid hnd; have HI := Lib.hid hi; have HARGS := Lib.hid hargs
          clear hl hnd hi hargs
          cases hs : need y with
          | false =>
            have HS := Lib.hid hs
            clear hs
            go_wp2
            go_loopw [9] (fun k wr => k = .int .i64 0 ∧ Lab w0 wr (Thing.fn ob 4 L.length (fun i => .bool (need i)) :: Thing.rgraph F I rb W room L :: ts)) (fun _ _ => 0)
            case atStart => exact ⟨rfl, HL6.out⟩
            case round =>
              obtain ⟨rfl, hl⟩ := hrel
              have d1 := hl.fn1.cell (i := y) (by omega)
              rw [HS.out] at d1
              obtain ⟨g, cap, va, c2, k0, k1, k2, hva⟩ := hl.rgr2.node HI.out
              obtain ⟨a, m, cc, rfl, hm, -⟩ := hva.slice.parts
              have HL8 := Lib.hid hl
              clear hl hva k0 k1
              have q0 : ((0 : Int) < (m : Int)) ∨ ¬ ((0 : Int) < (m : Int)) := by omega
              rcases q0 with q0 | q0
              all_goals go_wp2
              all_goals go_roundw
              all_goals first | (case rel => exact ⟨(y : Int) - 1, by omega, by omega, by go_num, need, by rw [show ((y : Int) - 1 + 1).toNat = y by omega, ← HND.out]; show _ = occDown L y (occStep L y need); rw [occStep_no HS.out], HL8.out⟩) | (case measure => simp [intOf] <;> omega)
          | true =>
            have HS := Lib.hid hs
            clear hs
            go_wp2
            go_loopw [9] (fun k wr => ∃ j : Nat, j ≤ nd.2.2.length ∧ k = .int .i64 j ∧ Lab w0 wr (Thing.fn ob 4 L.length (fun i => .bool (markA need (nd.2.2.take j) i)) :: Thing.rgraph F I rb W room L :: ts)) (fun k _ => nd.2.2.length - (intOf k).toNat)
            case atStart => exact ⟨0, by omega, rfl, by rw [List.take_zero, markA_nil]; exact HL6.out⟩
            case round =>
              obtain ⟨j, hj, rfl, hl⟩ := hrel
              have d1 := hl.fn1.cell (i := y) (by omega)
              rw [show markA need (nd.2.2.take j) y = true by unfold markA; rw [HS.out]; rfl] at d1
              obtain ⟨g, cap, va, c2, k0, k1, k2, hva⟩ := hl.rgr2.node HI.out
              obtain ⟨a, m, cc, rfl, hm, -⟩ := hva.slice.parts
              by_cases hlt : j < nd.2.2.length
              · obtain ⟨b, off, u, rfl, hc, hu⟩ := SliceOf.parts' hva.slice (i := j) (by omega)
                have hub := HARGS.out u (List.mem_of_getElem? hu)
                obtain ⟨g2, rfl⟩ := Int.eq_ofNat_of_zero_le hub.1
                have hgz : (g2 : Int) < (L.length : Int) := by omega
                have hjm : (j : Int) < (m : Int) := by omega
                have d2 := hl.fn1.cell (i := g2) (by omega)
                have f2 := hl.fn1.frozen g2
                have HL9 := Lib.hid hl; have HU := Lib.hid hu
                clear hl hva hu hub k0 k1 hm
                go_wp2
                go_roundw
                case rel =>
                  have hl6 := (HL9.out.set g2 (.bool true)).fn_congr (g := fun i => .bool (markA need (nd.2.2.take (j + 1)) i)) (fun i _ => by rw [← markA_snoc HU.out]; by_cases e : i = g2 <;> simp [e])
                  exact ⟨j + 1, by omega, by go_num, hl6⟩
                case measure => simp [intOf]; omega
              · obtain rfl : j = nd.2.2.length := by omega
                have hjm : ¬ ((nd.2.2.length : Int) < (m : Int)) := by omega
                rw [List.take_length, markA_all HI.out HS.out] at hl
                have HL9 := Lib.hid hl
                clear hl hva k0 k1 hm
                go_wp2
                go_roundw
                case rel =>
                  exact ⟨(y : Int) - 1, by omega, by omega, by go_num, occStep L y need, by rw [show ((y : Int) - 1 + 1).toNat = y by omega]; exact HND.out, HL9.out⟩
                case measure => simp [intOf] <;> omega
        · obtain rfl : c = -1 := by omega
          have hnd' : need = occS L us := hnd
          subst hnd'
          have HL6 := Lib.hid hl
          clear hl hnd
          go_wp2
          go_ret2
          exact ⟨fun _ => ⟨ob, rfl, HL6.out⟩, fun h => absurd HIN.out h⟩
set_option maxRecDepth 100000 in
/-- The reference's Vars. -/
theorem Lab.rvarsT (h : Lab w0 wr (Thing.rgraph F I rb W room L :: ts)) (hg : GoodL W L) (v : Value) (us : List Int) (hv : ∀ wx, Lab w0 wx ts → SliceOf wx .i64 v us) (hn : us.length ≤ 9223372036854775807) :
    Calls Tryz.prog 12 #[.pointer (some ⟨rb, 0, none⟩), v] wr fun e w' =>
      (InL L us → ∃ a c, e = .returned (.tuple #[.slice a (varsO L (occS L us)).length c, .int .i64 0]) ∧ Lab w0 w' (Thing.ints (.slice a (varsO L (occS L us)).length c) (varsO L (occS L us)) :: Thing.rgraph F I rb W room L :: ts)) ∧
      (¬ InL L us → e = .returned (.tuple #[.slice none 0 0, .int .i64 3]) ∧ Lab w0 w' (Thing.rgraph F I rb W room L :: ts)) := by
  have hll : L.length ≤ 1048576 := by have := h.rgr.len; have := h.rgr.r2; omega
  have HO := Lib.hid (h.roccursT v us hv hn); have HG := Lib.hid hg
  clear h hv hn hg
  by_cases hin : InL L us
  · obtain ⟨S, hS⟩ : ∃ S, occS L us = S := ⟨_, rfl⟩
    have HS := Lib.hid hS
    go_enter Tryz.func12, Tryz.ntmps12
    go_wp2_with fail
    go_at_call 40
    refine HO.out.mono ?_
    rintro e w2 ⟨h1, -⟩
    obtain ⟨ob, rfl, hl⟩ := h1 hin
    rw [hS] at hl
    have HL := Lib.hid hl.nil_ints; have HIN := Lib.hid hin
    clear h1 hl HO hS hin
    go_wp2
    go_loopw [8, 9] (fun v t wx => ∃ k : Nat, k ≤ L.length ∧ t = .int .i64 k ∧ ∃ a m c out, v = .slice a m c ∧ out.length = m ∧ Found L S k out ∧ Lab w0 wx (Thing.ints (.slice a m c) out :: Thing.fn ob 4 L.length (fun i => .bool (S i)) :: Thing.rgraph F I rb W room L :: ts)) (fun _ t _ => L.length - (intOf t).toNat)
    case atStart => exact ⟨0, by omega, rfl, none, 0, 0, [], rfl, rfl, Found.start L S, HL.out⟩
    case round =>
      obtain ⟨k, hk, rfl, a, m, c, out, rfl, hm, hf, hl⟩ := hrel
      clear HL
      by_cases hlt : k < L.length
      · have hlt' : (k : Int) < (L.length : Int) := by omega
        have d1 := hl.fn2.cell (i := k) hlt
        have HL2 := Lib.hid hl; have HF := Lib.hid hf; have HM := Lib.hid hm
        cases hs : S k with
        | false =>
          rw [hs] at d1
          have HSK := Lib.hid hs
          clear hs hl hf hm
          go_wp2
          go_roundw
          case rel => exact ⟨k + 1, by omega, by go_num, a, m, c, out, rfl, HM.out, HF.out.skip (.inl HSK.out), HL2.out⟩
          case measure => simp [intOf]; omega
        | true =>
          rw [hs] at d1
          obtain ⟨nd, hi⟩ : ∃ nd, L[k]? = some nd := ⟨_, List.getElem?_eq_getElem hlt⟩
          have hrg : RGr wr 0 F I rb W room L := hl.third
          obtain ⟨g, cap, va, c2, k0, k1, k2, -⟩ := hrg.node hi
          have hgood := HG.out nd (List.mem_of_getElem? hi)
          have HSK := Lib.hid hs
          by_cases h1 : nd.1 = 1
          · have hb : (nd.2.1 : Int) ≤ 4194303 := by unfold NodeGood at hgood; omega
            have h1' : ((nd.1 : Int) != 1) = false := by rw [h1]; rfl
            have hvn := varN_some.2 ⟨nd, hi, h1, rfl⟩
            obtain ⟨x, hx⟩ : ∃ x, (nd.2.1 : Int) = x := ⟨_, rfl⟩
            have hmk := hf.len
            rw [hm] at hmk
            have HX := Lib.hid (hvn.trans (congrArg some hx))
            clear hs hl hf hm hrg hgood hvn hi
            go_upto_block 2 with fail
            clear d1 c2 k0 k1 k2 h1'
            go_cut [11] (fun i wx => ∃ q : Nat, i = .int .i64 q ∧ q ≤ m ∧ (∀ y, 0 < q → out[q - 1]? = some y → y ≤ x) ∧ (∀ j y, q ≤ j → out[j]? = some y → x < y) ∧ Lab w0 wx (Thing.ints (.slice a m c) out :: Thing.fn ob 4 L.length (fun i => .bool (S i)) :: Thing.rgraph F I rb W room L :: ts))
            case first =>
              go_wp2
              go_loopw [11] (fun i wx => ∃ q : Nat, i = .int .i64 q ∧ q ≤ m ∧ (∀ j y, q ≤ j → out[j]? = some y → x < y) ∧ Lab w0 wx (Thing.ints (.slice a m c) out :: Thing.fn ob 4 L.length (fun i => .bool (S i)) :: Thing.rgraph F I rb W room L :: ts)) (fun i _ => (intOf i).toNat)
              case atStart =>
                refine ⟨m, rfl, Nat.le_refl _, fun j y hj hy => ?_, HL2.out⟩
                have := (List.getElem?_eq_some_iff.1 hy).1
                have := HM.out
                omega
              case round =>
                obtain ⟨q, rfl, hq, hhi, hl⟩ := hrel
                have HHI := Lib.hid hhi; have HL3 := Lib.hid hl
                rcases Nat.eq_zero_or_pos q with rfl | hq0
                · clear hl hhi
                  go_wp2
                  go_meet
                  exact ⟨0, rfl, by omega, by omega, HHI.out, HL3.out⟩
                · obtain ⟨p, rfl⟩ : ∃ p, q = p + 1 := ⟨q - 1, by omega⟩
                  have hmo := HM.out
                  obtain ⟨y, hy⟩ : ∃ y, out[p]? = some y := ⟨_, List.getElem?_eq_getElem (by omega)⟩
                  have hown : OwnInts wr 0 3 .i64 (.slice a m c) out := hl.ints
                  obtain ⟨g, cap, e⟩ := own_some' hown (by intro e; rw [e] at hmo; simp at hmo; omega)
                  simp only [Value.slice.injEq] at e
                  obtain ⟨rfl, -, rfl⟩ := e
                  have d0 := (OwnInts.slice hown).at hy
                  rw [Nat.zero_add] at d0
                  have hp0 : (0 : Int) < (p : Int) + 1 := by omega
                  have hpm : (p : Int) < (m : Int) := by omega
                  have hw1 : IntKind.i64.wrap ((p : Int) + 1 - 1) = (p : Int) := by simp [IntKind.wrap, IntKind.bits, IntKind.signed]; omega
                  have HY := Lib.hid hy
                  clear hl hhi hown hy hmo
                  by_cases hxy : x < y
                  · go_wp2
                    go_roundw
                    case rel =>
                      refine ⟨p, by go_num, by omega, fun j z hj hz => ?_, HL3.out⟩
                      by_cases e : j = p
                      · subst e; rw [HY.out] at hz; cases hz; exact hxy
                      · exact HHI.out j z (by omega) hz
                    case measure => simp [intOf]
                  · go_wp2
                    go_meet
                    exact ⟨p + 1, rfl, by omega, fun z _ hz => by rw [Nat.add_sub_cancel, HY.out] at hz; cases hz; omega, HHI.out, HL3.out⟩
            case rest =>
              obtain ⟨q, rfl, hq, hlo, hhi, hl⟩ := hcut
              have hl4 := (hl.alloc #[.int .i64 0] 3).swap
              have hsrc := sliceOf_new wc .i64 3 [0] 1
              have hlx : m + [(0 : Int)].length ≤ 1000000000 := by simp only [List.length_singleton]; omega
              have HPUT := Lib.hid (HF.out.put HSK.out HX.out (by have := HM.out; omega) hlo hhi)
              have HL4 := Lib.hid hl4; have HSRC := Lib.hid hsrc
              clear hl hl4 hsrc hlo hhi HL2
              go_upto_region 13 with (at_builtin; refine wpList_append_labn (.tmp 67) (.tmp 68) HM.out HL4.out HSRC.out rfl rfl rfl rfl hlx ?_; intro a5 c5 w5 hl5)
              have hlen5 : (out ++ [0]).length = m + 1 := by rw [List.length_append, HM.out]; rfl
              have hown : OwnInts w5 0 3 .i64 (.slice a5 (m + 1) c5) (out ++ [0]) := hl5.ints
              have hl6 : Lab w0 w5 (Thing.ints (.slice a5 (m + 1) c5) (out ++ [0]) :: Thing.fn ob 4 L.length (fun i => .bool (S i)) :: Thing.rgraph F I rb W room L :: ts) := hl5.subl (.cons_cons _ (.cons _ (List.Sublist.refl _)))
              obtain ⟨gg, cap5, e⟩ := own_some' hown (by simp)
              simp only [Value.slice.injEq] at e
              obtain ⟨rfl, -, rfl⟩ := e
              have hcc := hl6.ints_cap.1
              have hld := hl6.later (Below.refl _ _).drew
              obtain ⟨n1, hn1⟩ : ∃ n1, m + 1 = n1 := ⟨_, rfl⟩
              obtain ⟨r, hr⟩ : ∃ r, q + 1 = r := ⟨_, rfl⟩
              rw [hn1] at hld hcc hlen5 ⊢
              have HL6 := Lib.hid hld; have HLEN := Lib.hid hlen5; have HN1 := Lib.hid hn1; have HR := Lib.hid hr
              have q0 : (0 : Int) ≤ (q : Int) := by omega
              have q1 : (0 : Int) ≤ (r : Int) := by omega
              have q2 : (r : Int) ≤ (n1 : Int) := by omega
              have q3 : ¬ c5 = q := by omega
              have q4 : (q : Int) ≤ (n1 : Int) := by omega
              have q5 : (q : Int) ≤ (c5 : Int) := by omega
              have q6 : (r : Int) ≤ (c5 : Int) := by omega
              have q7 : IntKind.i64.wrap ((q : Int) + 1) = (r : Int) := by simp [IntKind.wrap, IntKind.bits, IntKind.signed]; omega
              have q8 : (n1 : Int) ≤ (c5 : Int) := by omega
              have q9 : r ≤ n1 := by omega
              have q10 : q ≤ n1 := by omega
              clear hl5 hown hl6 hld hlen5 HL4 HSRC hn1 hr
              have q11 : (q : Int) < (n1 : Int) := by have := HN1.out; omega
              have hqc : c5 = r ∨ ¬ c5 = r := by omega
              rcases hqc with rfl | qc
              all_goals
                (go_still_tail 7, (by kernel_rfl)
                 simp only [World.drew_eq]
                 refine wpList_copy_shift (.tmp 73) (.tmp 76) (n := n1) (c := c5) (q := q) HL6.out HLEN.out rfl rfl rfl rfl (by have := HR.out; omega) (by have := HR.out; have := HN1.out; omega) (fun h => by have := HR.out; have := HN1.out; first | (exfalso; omega) | (rw [HR.out])) ?_
                 intro v9 w9 hl9
                 have hsl9 := shiftL_len (xs := out ++ [0]) (q := q) (by rw [HLEN.out]; have := HN1.out; omega)
                 rw [HLEN.out] at hsl9
                 obtain ⟨y9, hy9⟩ : ∃ y, (shiftL (out ++ [0]) q)[q]? = some y := ⟨_, List.getElem?_eq_getElem (by rw [hsl9]; have := HN1.out; omega)⟩
                 have hown9 : OwnInts w9 0 3 .i64 (.slice (some ⟨gg, 0, none⟩) n1 c5) (shiftL (out ++ [0]) q) := hl9.ints
                 have d9 := (OwnInts.slice hown9).at hy9
                 rw [Nat.zero_add] at d9
                 have f9 := ints_frozen hown9 q
                 have hl10 := Lab.ints_set hsl9 hl9 q x
                 rw [shiftL_set (by have := HM.out; omega)] at hl10
                 have HL10 := Lib.hid hl10
                 clear hl9 hsl9 hy9 hown9 hl10 HL6
                 go_wp2
                 go_roundw
                 case rel => exact ⟨k + 1, by omega, by go_num, _, n1, c5, insL out q x, rfl, by rw [(insL_perm out q x).length_eq, List.length_append, HM.out, ← HN1.out]; rfl, HPUT.out, HL10.out⟩
                 case measure => simp [intOf]; omega)
          · have h1' : ((nd.1 : Int) != 1) = true := by rw [bne_iff_ne]; omega
            have hno : varN L k = none := by
              cases e : varN L k with
              | none => rfl
              | some x =>
                obtain ⟨n', e1, e2, -⟩ := varN_some.1 e
                rw [hi] at e1
                cases e1
                exact absurd e2 h1
            have HNO := Lib.hid hno
            clear hs hl hf hm hrg hgood hno hi
            go_wp2
            go_roundw
            case rel => exact ⟨k + 1, by omega, by go_num, a, m, c, out, rfl, HM.out, HF.out.skip (.inr HNO.out), HL2.out⟩
            case measure => simp [intOf]; omega
      · obtain rfl : k = L.length := by omega
        have hlt' : ¬ (L.length : Int) < (L.length : Int) := by omega
        have he := hf.end_
        have HL2 := Lib.hid (hl.swap.drop); have HE := Lib.hid he
        have HM := Lib.hid hm
        clear hl hf he hm
        go_wp2
        go_ret2
        refine ⟨fun _ => ?_, fun h => absurd HIN.out h⟩
        rw [HS.out, HE.out, HM.out]
        exact ⟨a, c, rfl, HL2.out⟩
  · go_enter Tryz.func12, Tryz.ntmps12
    go_wp2_with fail
    go_at_call 40
    refine HO.out.mono ?_
    rintro e w2 ⟨-, h2⟩
    obtain ⟨rfl, hl⟩ := h2 hin
    have HL := Lib.hid hl; have HIN := Lib.hid hin
    clear h2 hl HO hin
    go_wp2
    go_ret2
    exact ⟨fun h => absurd h HIN.out, fun _ => ⟨rfl, HL.out⟩⟩
end
end Go.Proofs.YteamnchoddegpaaGreatDoor
namespace Go.Proofs.YteamnchoddegpaaGreatDoor
open Go.RowKit Go.Maps
set_option maxHeartbeats 3200000
set_option maxRecDepth 100000 in
theorem graphs_bad (w : World) (Wi : Int) (v : Value) (h : ¬ (1 ≤ Wi ∧ Wi ≤ 64)) :
    Calls Tryz.prog 9 #[.int .i64 Wi, v] w fun e w' => e = .returned (.tuple #[.pointer none, .pointer none]) ∧ w = w' := by
  have h' : ¬ newOk Wi 1000 := fun hk => h ⟨hk.1, hk.2.1⟩
  have H1 := Lib.hid (new_bad Wi 1000 h' w); have H2 := Lib.hid (rnew_bad Wi 1000 h' w)
  clear h h'
  go_enter Tryz.func9, Tryz.ntmps9
  go_wp2_with (first | (go_at_call 26; refine H1.out.mono ?_; rintro e w1 ⟨rfl, rfl⟩) | (go_at_call 27; refine H2.out.mono ?_; rintro e w1 ⟨rfl, rfl⟩))
  go_ret2
  exact ⟨rfl, rfl⟩
section
variable {w0 wr w' : World} {ts : List Thing}
theorem made_one (v : Value) : madeCells #[v] 1 = #[v] := by
  refine Array.ext_getElem? fun i => ?_
  by_cases h : i < 1
  · obtain rfl : i = 0 := by omega
    rw [madeCells_at _ _ _ (by omega)]
    rfl
  · rw [Array.getElem?_eq_none (by simp [madeCells]; omega), Array.getElem?_eq_none (by simp; omega)]
theorem Lab.one_int (h : Lab w0 wr ts) (x : Int) : Lab w0 (wr.alloc (.cells #[.int .i64 x] 3)) (Thing.numsK .i64 3 (.slice (some ⟨wr.heap.size, 0, none⟩) 1 1) [x] :: ts) := by
  have h1 := h.make_row 1 3 (.int .i64 x) (by unfold maxLen; omega)
  rw [made_one] at h1
  exact h1
/-- What lies apart from a list of one's own lies as it lay when something is appended to that list. -/
theorem append_keep {k : IntKind} {E : Nat} {ao : Option Addr} {m c : Nat} {ys : List Int} {T ty bytes : Nat} {x : Int} {v : Value} {w2 : World} (hy : ys.length = m) (h : Lab w0 wr (Thing.numsK k E (.slice ao m c) ys :: ts))
    (ht : Tryz.prog.underlying T = some (.slice E)) (hi : (Tryz.prog.info? E).map (fun i => (i.zero, i.size, i.bytes)) = some (some (.int k 0), 1, bytes)) (hbt : bytes ≤ 1000) (hn : m ≤ 999999999)
    (hr : (Builtin.append_ #[T, T] ty #[.slice ao m c, .slice (some ⟨wr.heap.size, 0, none⟩) 1 1]).run Tryz.prog (wr.alloc (.cells #[.int k x] E)) = .ok v w2) {a : Addr} {u : Value} (hne : some a.block ≠ (Value.slice ao m c).ownBlock) (hc : wr.cell? a = some u) : w2.cell? a = some u := by
  unfold Thing.numsK at h
  rw [hy] at h
  have hl := h.later (below_new wr (.cells #[.int k x] E))
  have hown : (wr.alloc (.cells #[.int k x] E)).ownsRow 0 E 1 (.slice ao m c) m (ys.map (Value.int k)) := hl.head
  obtain ⟨v', w', hr', -, h3⟩ := run_append_src (P := Tryz.prog) (wr.alloc (.cells #[.int k x] E)) 0 T ty E 1 bytes (.int k 0) ht hi rfl (by decide) hbt _ _ m 1 _ [.int k x] hown (srcOf_new wr (.int k x) E) (by intro v hv; simp at hv; rw [hv]; rfl) (by omega) (Nat.zero_le _)
  rw [hr] at hr'
  simp only [Result.ok.injEq] at hr'
  obtain ⟨rfl, rfl⟩ := hr'
  exact h3.cell (cell_later (below_new _ _) hc) hne
set_option maxRecDepth 100000 in
theorem Lab.graphs (h : Lab w0 wr ts) (Wi : Int) (h1 : 1 ≤ Wi) (h2 : Wi ≤ 64) (v : Value) (rs : List RawN) (hv : RawsOf w0 v rs) (hn : rs.length ≤ 900) :
    Calls Tryz.prog 9 #[.int .i64 Wi, v] wr fun e w' => ∃ gb rb F I F' I', e = .returned (.tuple #[.pointer (some ⟨gb, 0, none⟩), .pointer (some ⟨rb, 0, none⟩)]) ∧
      Lab w0 w' (Thing.graph F I gb Wi.toNat 1000 (rawsL Wi.toNat 1000 rs) :: Thing.rgraph F' I' rb Wi.toNat 1000 (rawsL Wi.toNat 1000 rs) :: ts) := by
  have hok : newOk Wi 1000 := ⟨h1, h2, by omega, by omega⟩
  have hrm : roomOf 1000 = 1000 := rfl
  obtain ⟨W, hW⟩ : ∃ W, Wi.toNat = W := ⟨_, rfl⟩
  have hW2 : W ≤ 64 := by omega
  have HV := Lib.hid hv
  have HOKS := Lib.hid hv.ok
  obtain ⟨a, n, cap, rfl, hln, -⟩ := hv
  have HLN := Lib.hid hln
  have hn9 : n ≤ 900 := by omega
  have H1 := Lib.hid (h.new_graph Wi 1000 hok)
  have HK := Lib.hid hok
  rw [hW]
  rw [hrm, hW] at H1
  have HW := Lib.hid hW
  clear hok hrm hln h hW
  go_enter Tryz.func9, Tryz.ntmps9
  go_wp2_with fail
  go_at_call 26
  refine H1.out.mono ?_
  rintro e w1 ⟨gb, F, rfl, hl1⟩
  have H2 := Lib.hid (hl1.new_rgraph Wi 1000 HK.out)
  rw [show roomOf 1000 = 1000 from rfl, HW.out] at H2
  clear H1 hl1
  go_wp2_with fail
  go_at_call 27
  refine H2.out.mono ?_
  rintro e w2 ⟨rb, F', rfl, hl2⟩
  have HL := Lib.hid hl2
  clear H2 hl2
  go_wp2
  go_loopw [10] (fun v10 wx => ∃ c : Nat, c ≤ n ∧ v10 = .int .i64 c ∧ ∃ F I F' I', Lab w0 wx (Thing.graph F I gb W 1000 (rawsL W 1000 (rs.take c)) :: Thing.rgraph F' I' rb W 1000 (rawsL W 1000 (rs.take c)) :: ts)) (fun v10 _ => n - (intOf v10).toNat)
  case atStart => exact ⟨0, by omega, rfl, F, [], F', [], HL.out.swap⟩
  case round =>
    clear HL
    obtain ⟨c, hc, rfl, F, I, F', I', hl⟩ := hrel
    by_cases hlt : c < n
    · have hlt' : (c : Int) < (n : Int) := by omega
      have hcw : IntKind.i64.wrap ((c : Int) + 1) = (c : Int) + 1 := by simp [IntKind.wrap, IntKind.bits, IntKind.signed]; omega
      have c0 : (0 : Int) ≤ (c : Int) := by omega
      obtain ⟨b, off, r, rfl, hr, hrok, k0, k1, k2, k3, k4⟩ := HV.out.at hlt
      have KS := Lib.hid (fun wx (hb : Below w0.heap.size w0 wx) => And.intro (cell_later hb k0) (And.intro (cell_later hb k1) (And.intro (cell_later hb k2) (And.intro (cell_later hb k3) (cell_later hb k4)))))
      have HBLT := Lib.hid (show b < w0.heap.size from World.block_lt_of_cell? (h := k0))
      obtain ⟨j0, j1, j2, j3, j4⟩ := KS.out wr hl.below
      have hrs : rs.take (c + 1) = rs.take c ++ [r] := by rw [List.take_add_one, hr]; rfl
      have hstep := rawR_ok (room := 1000) (rawsL_ok (room := 1000) hW2 HOKS.out (by omega) c (by have := HLN.out; omega)).1 hrok hW2 (by have := HLN.out; omega)
      obtain ⟨L, hL⟩ : ∃ L, rawsL W 1000 (rs.take c) = L := ⟨_, rfl⟩
      have hL2 : rawsL W 1000 (rs.take (c + 1)) = (rawR W 1000 L r).1 := by rw [hrs, rawsL_snoc, hL]
      rw [hL] at hl hstep
      obtain ⟨R, hR⟩ : ∃ R, rawR W 1000 L r = R := ⟨_, rfl⟩
      rw [hR] at hstep hL2
      obtain ⟨L2, t, e⟩ := R
      have he : e = 0 := hstep.1
      subst he
      have hNEXT : ∀ wx, (∃ F I F' I', Lab w0 wx (Thing.graph F I gb W 1000 L2 :: Thing.rgraph F' I' rb W 1000 L2 :: ts)) → ∃ F I F' I', Lab w0 wx (Thing.graph F I gb W 1000 (rawsL W 1000 (rs.take (c + 1))) :: Thing.rgraph F' I' rb W 1000 (rawsL W 1000 (rs.take (c + 1))) :: ts) := fun wx h => by rw [hL2]; exact h
      obtain ⟨a9, c9, p0, p1, p2, hL6⟩ := (hl.swap).rgr.parts
      have HL := Lib.hid hl; have HR := Lib.hid hR; have HN := Lib.hid hNEXT; have HO := Lib.hid hrok; have HL6 := Lib.hid hL6
      have HPOS := Lib.hid (show L.length ≤ 900 by have := hstep.2.1.len; have := (rawsL_ok (room := 1000) hW2 HOKS.out (by omega) c (by have := HLN.out; omega)).1.len; rw [hL] at this; have := HLN.out; omega)
      clear hl hr hrs hstep hL hL2 hR hNEXT hrok p0 p1 hL6 k0 k1 k2 k3 k4
      by_cases hA : r.kind % 3 = 0 ∨ L.length = 0
      · have hR : constR W 1000 L r.num = (L2, t, 0) := by rw [← HR.out]; unfold rawR; rw [if_pos hA]
        have hc := const_any HL.out.gr r.num HO.out.num
        rw [hR] at hc
        have hc2 : ∀ wx F I, RGr wx 0 F I rb W 1000 L → Calls Tryz.prog 29 #[.pointer (some ⟨rb, 0, none⟩), .int .u64 r.num] wx (RPost wx 0 F I rb W 1000 (L2, t, 0)) := fun wx F I h => by
          have := rconst_any h r.num HO.out.num
          rwa [hR] at this
        have HC := Lib.hid hc; have HC2 := Lib.hid hc2
        clear hc hc2 hR
        have hk : (((r.kind : Int) % 3) == 0) = true ∨ ((((r.kind : Int) % 3) == 0) = false ∧ ((L.length : Int) == 0) = true) := by
          by_cases h3 : r.kind % 3 = 0
          · exact .inl (by rw [beq_iff_eq]; omega)
          · exact .inr ⟨by rw [beq_eq_false_iff_ne]; omega, by rw [beq_iff_eq]; omega⟩
        clear hA
        rcases hk with hk | ⟨hk, hl0⟩
        all_goals
          go_wp2_with fail
          go_at_call 28
          refine HC.out.mono ?_
          intro e w3 hp
          obtain ⟨F2, I2, rfl, hl3⟩ := HL.out.gpost hp
          have hl4 := hl3.swap
          obtain ⟨j0, j1, j2, j3, j4⟩ := KS.out w3 hl3.below
          have HL4 := Lib.hid hl4
          clear hl3 hl4 hp
          go_wp2_with fail
          go_at_call 29
          refine (HC2.out _ _ _ HL4.out.rgr).mono ?_
          intro e w4 hp
          obtain ⟨F3, I3, rfl, hl5⟩ := HL4.out.rpost hp
          have HL5 := Lib.hid hl5
          clear hl5 hp
          go_wp2
          refine ⟨⟨c + 1, by omega, by go_num, HN.out _ ⟨_, _, _, _, HL5.out.swap⟩⟩, ?_⟩
          simp [intOf]; omega
      · have hk : (((r.kind : Int) % 3) == 0) = false := by rw [beq_eq_false_iff_ne]; omega
        have hl0 : ((L.length : Int) == 0) = false := by rw [beq_eq_false_iff_ne]; omega
        have hpos : 0 < L.length := by omega
        by_cases hB : r.kind % 3 = 1
        · have hk1 : (((r.kind : Int) % 3) == 1) = true := by rw [beq_iff_eq]; omega
          obtain ⟨q, hq⟩ : ∃ q, r.a % 12 = q := ⟨_, rfl⟩
          have hq2 : (r.a : Int) % 12 = (q : Int) := by omega
          have hq3 : IntKind.i64.wrap (q : Int) = (q : Int) := by simp [IntKind.wrap, IntKind.bits, IntKind.signed]; omega
          have hR : varR 1000 L (q : Int) = (L2, t, 0) := by rw [← HR.out]; unfold rawR; rw [if_neg hA, if_pos hB, hq]
          have hc := var_any HL.out.gr (q : Int)
          rw [hR] at hc
          have hc2 : ∀ wx F I, RGr wx 0 F I rb W 1000 L → Calls Tryz.prog 31 #[.pointer (some ⟨rb, 0, none⟩), .int .i64 q] wx (RPost wx 0 F I rb W 1000 (L2, t, 0)) := fun wx F I h => by
            have := rvar_any h (q : Int)
            rwa [hR] at this
          have HC := Lib.hid hc; have HC2 := Lib.hid hc2
          clear hc hc2 hR hA hB hq hpos
          go_wp2_with fail
          go_at_call 30
          refine HC.out.mono ?_
          intro e w3 hp
          obtain ⟨F2, I2, rfl, hl3⟩ := HL.out.gpost hp
          have hl4 := hl3.swap
          obtain ⟨j0, j1, j2, j3, j4⟩ := KS.out w3 hl3.below
          have HL4 := Lib.hid hl4
          clear hl3 hl4 hp
          go_wp2_with fail
          go_at_call 31
          refine (HC2.out _ _ _ HL4.out.rgr).mono ?_
          intro e w4 hp
          obtain ⟨F3, I3, rfl, hl5⟩ := HL4.out.rpost hp
          have HL5 := Lib.hid hl5
          clear hl5 hp
          go_wp2
          refine ⟨⟨c + 1, by omega, by go_num, HN.out _ ⟨_, _, _, _, HL5.out.swap⟩⟩, ?_⟩
          simp [intOf]; omega
        · have hk1 : (((r.kind : Int) % 3) == 1) = false := by rw [beq_eq_false_iff_ne]; omega
          obtain ⟨o, ho⟩ : ∃ o, r.o = o := ⟨_, rfl⟩
          have ho2 : 2 ≤ o ∧ o ≤ 20 := by rw [← ho]; unfold RawN.o; omega
          have how : IntKind.u8.wrap (2 + (r.op : Int) % 19) = (o : Int) := by rw [← ho]; unfold RawN.o; simp [IntKind.wrap, IntKind.bits, IntKind.signed]; omega
          obtain ⟨x, hx⟩ : ∃ x, r.a % L.length = x := ⟨_, rfl⟩
          obtain ⟨y, hy⟩ : ∃ y, r.b % L.length = y := ⟨_, rfl⟩
          have hxi : (r.a : Int) % (L.length : Int) = (x : Int) := by rw [← hx]; simp
          have hyi : (r.b : Int) % (L.length : Int) = (y : Int) := by rw [← hy]; simp
          have hra : (r.a : Int) ≤ 65535 := by have := HO.out.a; omega
          have hrb : (r.b : Int) ≤ 65535 := by have := HO.out.b; omega
          have hwa : IntKind.i64.wrap (r.a : Int) = (r.a : Int) := by simp [IntKind.wrap, IntKind.bits, IntKind.signed]; omega
          have hwb : IntKind.i64.wrap (r.b : Int) = (r.b : Int) := by simp [IntKind.wrap, IntKind.bits, IntKind.signed]; omega
          have hLne : ¬ ((L.length : Int)) = 0 := by omega
          have hR : appR 1000 L o (r.args L.length) = (L2, t, 0) := by rw [← HR.out]; unfold rawR; rw [if_neg hA, if_neg hB, ho]
          have hargs : r.args L.length = if o = 2 ∨ o = 3 then [(x : Int)] else [(x : Int), (y : Int)] := by unfold RawN.args; rw [ho, hx, hy]
          rw [hargs] at hR
          have HRR := Lib.hid hR; have HOO := Lib.hid ho2
          obtain ⟨m, hm⟩ : ∃ m, L.length = m := ⟨_, rfl⟩
          have hm0 : ¬ m = 0 := by omega
          have HMM := Lib.hid hm
          rw [hm] at p2 hl0 hxi hyi hLne
          have hxt : (r.a : Int).tmod (m : Int) = (x : Int) := by rw [Int.tmod_eq_emod_of_nonneg (by omega)]; exact hxi
          have hyt : (r.b : Int).tmod (m : Int) = (y : Int) := by rw [Int.tmod_eq_emod_of_nonneg (by omega)]; exact hyi
          clear hR hargs hA hB ho hx hy hpos ho2 hm
          go_upto_region 10 with fail
          go_region_held3 (fun w' => w'.cell? ⟨b, off + c * 5 + 3, none⟩ = some (.int .u16 r.a) ∧ w'.cell? ⟨rb, 2, none⟩ = some (.slice a9 m c9)) (first | exact ⟨j3, p2⟩ | exact ⟨cell_later (below_new _ _) j3, cell_later (below_new _ _) p2⟩ | go_keep) (fail)
          have hl3 := (HL.out.one_int (x : Int)).drew1
          obtain ⟨p, hp⟩ : ∃ p, wr.heap.size = p := ⟨_, rfl⟩
          simp only [hp] at hl3 ⊢
          have HL3 := Lib.hid hl3
          obtain ⟨w3, hw3⟩ : ∃ w3, (wr.alloc (.cells #[.int .i64 (x : Int)] 3)).drew = w3 := ⟨_, rfl⟩
          rw [hw3] at HL3 ⊢
          clear hl3 hw3 hp
          have hcase : (o = 2 ∨ o = 3) ∨ (((o : Int) != 2) = true ∧ ((o : Int) != 3) = true ∧ ¬ (o = 2 ∨ o = 3)) := by
            by_cases h : o = 2 ∨ o = 3
            · exact .inl h
            · exact .inr ⟨by rw [bne_iff_ne]; omega, by rw [bne_iff_ne]; omega, h⟩
          rcases hcase with ho | ⟨ho2, ho3, hno⟩
          · have hR := HRR.out
            rw [if_pos ho] at hR
            have hl3 := HL3.out
            have hc := app_any hl3.swap.gr o (by have := HOO.out; omega) [(x : Int)] _ (OwnInts.slice hl3.head)
            rw [hR] at hc
            have HC := Lib.hid hc; have HRX := Lib.hid hR
            clear hl3 hc hR HRR
            have hoc : (((o : Int) != 2) = false) ∨ (((o : Int) != 2) = true ∧ ((o : Int) != 3) = false) := by
              rcases ho with rfl | rfl
              · exact .inl rfl
              · exact .inr ⟨rfl, rfl⟩
            clear ho
            rcases hoc with ho2 | ⟨ho2, ho3⟩
            all_goals
              go_wp2_with fail
              go_at_call 32
              refine HC.out.mono ?_
              intro e w4 hp
              obtain ⟨F2, I2, rfl, hl4⟩ := HL3.out.swap.gpost hp
              have hl5 := hl4.rot3
              have hc2 := rapp_any hl5.rgr o (by have := HOO.out; omega) [(x : Int)] _ (OwnInts.slice hl5.third)
              rw [HRX.out] at hc2
              have HL5 := Lib.hid hl5; have HC2 := Lib.hid hc2
              clear hl4 hl5 hp hc2
              go_wp2_with fail
              go_at_call 33
              refine HC2.out.mono ?_
              intro e w5 hp
              obtain ⟨F3, I3, rfl, hl6⟩ := HL5.out.rpost hp
              have HL6 := Lib.hid hl6
              clear hl6 hp
              go_wp2
              refine ⟨⟨c + 1, by omega, by go_num, HN.out _ ⟨_, _, _, _, HL6.out.rot3.drop.swap⟩⟩, ?_⟩
              simp [intOf]; omega
          · have hR := HRR.out
            rw [if_neg hno] at hR
            obtain ⟨-, -, -, -, j4⟩ := KS.out w3 HL3.out.below
            obtain ⟨a9, c9, -, -, p2, -⟩ := HL3.out.rot3.rgr.parts
            rw [HMM.out] at p2
            obtain ⟨a2, c2, w4, hr, hl4⟩ := Lab.append1 (m := 1) 24 24 8 (y : Int) rfl HL3.out.drew1 Tryz.underlying24 Tryz.infoI64 (by decide) (by decide)
            have hc := app_any hl4.swap.gr o (by have := HOO.out; omega) [(x : Int), (y : Int)] _ (OwnInts.slice hl4.head)
            rw [hR] at hc
            have hpr : p ≠ rb := by
              intro e
              have ha := (List.pairwise_cons.1 HL3.out.apart).1 (Thing.rgraph F' I' rb W 1000 L) (by simp)
              refine (ha.1 p (by simp [Thing.numsK, Thing.row, Value.ownBlock])).1 ?_
              obtain ⟨sv, cells, hF, -⟩ := HL3.out.rot3.rgr.mem
              show p ∈ F'
              rw [hF, e]
              exact List.mem_cons_self
            have hpb : p ≠ b := by
              intro e
              have h1 := HL3.out.low (Thing.numsK .i64 3 (.slice (some ⟨p, 0, none⟩) 1 1) [(x : Int)]) (by simp) p (by simp [Thing.numsK, Thing.row, Value.ownBlock])
              have h2 := HBLT.out
              omega
            have kk := fun {a : Addr} {u : Value} (hne : some a.block ≠ (Value.slice (some ⟨p, 0, none⟩) 1 1).ownBlock) (hc : w3.drew.cell? a = some u) => append_keep (m := 1) rfl HL3.out.drew1 Tryz.underlying24 Tryz.infoI64 (by decide) (by decide) hr hne hc
            have KEEP := Lib.hid (show w4.cell? ⟨b, off + c * 5 + 4, none⟩ = some (.int .u16 r.b) ∧ w4.cell? ⟨rb, 2, none⟩ = some (.slice a9 m c9) from ⟨kk (by simp [Value.ownBlock]; exact fun h => hpb h.symm) j4, kk (by simp [Value.ownBlock]; exact fun h => hpr h.symm) p2⟩)
            clear kk hpr hpb
            have HR4 := Lib.hid hr; have HL4 := Lib.hid hl4; have HC := Lib.hid hc; have HRX := Lib.hid hR
            clear hr hl4 hc hR HRR hno
            go_upto_region 12 with fail
            go_region_held3 (fun w' => w'.cell? ⟨b, off + c * 5 + 4, none⟩ = some (.int .u16 r.b) ∧ w'.cell? ⟨rb, 2, none⟩ = some (.slice a9 m c9)) (first | exact ⟨j4, p2⟩ | exact ⟨cell_later (below_new _ _) j4, cell_later (below_new _ _) p2⟩ | exact KEEP.out | go_keep) (refine step_append_is rfl _ _ 24 rfl _ _ rfl rfl _ _ HR4.out ?_)
            go_wp2_with fail
            go_at_call 32
            refine HC.out.mono ?_
            intro e w5 hp
            obtain ⟨F2, I2, rfl, hl5⟩ := HL4.out.swap.gpost hp
            have hl6 := hl5.rot3
            have hc2 := rapp_any hl6.rgr o (by have := HOO.out; omega) [(x : Int), (y : Int)] _ (OwnInts.slice hl6.third)
            rw [HRX.out] at hc2
            have HL6 := Lib.hid hl6; have HC2 := Lib.hid hc2
            clear hl5 hl6 hp hc2
            go_wp2_with fail
            go_at_call 33
            refine HC2.out.mono ?_
            intro e w6 hp
            obtain ⟨F3, I3, rfl, hl7⟩ := HL6.out.rpost hp
            have HL7 := Lib.hid hl7
            clear hl7 hp
            go_wp2
            refine ⟨⟨c + 1, by omega, by go_num, HN.out _ ⟨_, _, _, _, HL7.out.rot3.drop.swap⟩⟩, ?_⟩
            simp [intOf]; omega
    · obtain rfl : c = n := by omega
      rw [List.take_of_length_le (by rw [HLN.out]; exact Nat.le_refl _)] at hl
      have HL := Lib.hid hl
      clear hl
      go_wp2
      go_ret2
      exact ⟨_, _, _, _, _, _, rfl, HL.out⟩
end
end Go.Proofs.YteamnchoddegpaaGreatDoor
