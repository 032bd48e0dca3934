/- The reference of layer 14: what occurs, and how many nodes. -/
import Derived.Test.YtofbadmjopefpaaSupF
import Derived.Test.YtofbadmjopefpaaBothA
import Derived.Test.YtofbadmjopefpaaEvalB
namespace Go.Proofs.Ytofbadmjopefpaa
open Go.RowKit Go.Maps
set_option maxHeartbeats 6400000

section
variable {w0 wr w' : World} {ts : List Thing} {F I : List Nat} {rb W room : Nat} {L : List PNode}
theorem Lab.make1 {w0 wr : World} {ts : List Thing} (h : Lab w0 wr ts) (n T : Nat) (z : Value) : Lab w0 (wr.alloc (.cells (madeCells #[z] n) T)) (Thing.fn wr.heap.size T n (fun _ => z) :: ts) :=
  h.make (n := n) (madeCells #[z] n) T (fun _ => z) (size_madeCells _ _) (fun i hi => by rw [madeCells_at _ _ i hi]; simp [Nat.mod_one])
set_option maxRecDepth 100000 in
theorem roccurs_nil (w : World) (v : Value) : Calls Try.prog 39 #[.pointer none, v] w fun e w' => e = .returned (.tuple #[.slice none 0 0, .int .i64 1]) ∧ w = w' := by
  go_enter Try.func39, Try.ntmps39
  go_wp2
  go_ret2
  exact ⟨rfl, rfl⟩
def ROccPost (w0 : World) (F I : List Nat) (rb W room : Nat) (L : List PNode) (ts : List Thing) (us : List Int) (e : Ending) (w' : World) : Prop :=
  (InL L us → ∃ ob, e = .returned (.tuple #[.slice (some ⟨ob, 0, none⟩) L.length L.length, .int .i64 0]) ∧ Lab w0 w' (Thing.fn ob 4 L.length (fun i => .bool (occS L us i)) :: Thing.rgraph F I rb W room L :: ts)) ∧
  (¬ InL L us → e = .returned (.tuple #[.slice none 0 0, .int .i64 3]) ∧ Lab w0 w' (Thing.rgraph F I rb W room L :: ts))
set_option maxRecDepth 100000 in
theorem Lab.roccurs (h : Lab w0 wr (Thing.rgraph F I rb W room L :: ts)) (v : Value) (us : List Int) (hv : SliceOf w0 .i64 v us) (hn : us.length ≤ 9223372036854775807) :
    Calls Try.prog 39 #[.pointer (some ⟨rb, 0, none⟩), v] wr (ROccPost w0 F I rb W room L ts us) := by
  have hll : L.length ≤ 1048576 := by have := h.rgr.len; have := h.rgr.r2; omega
  have hwf := h.rgr.wf
  obtain ⟨va, n, vc, rfl, hvn, -⟩ := hv.parts
  rw [hvn] at hn
  have hmk1 : ∀ w, (Instr.makeSlice 81 (.int .i64 (L.length : Int)) (.int .i64 (L.length : Int))).run Try.prog w = .ok (.slice (some ⟨w.heap.size, 0, none⟩) L.length L.length) (w.alloc (.cells (madeCells #[.bool false] L.length) 4)) :=
    run_make_row' (P := Try.prog) 81 4 (.bool false) 1 Try.underlying81 Try.infoBool rfl .i64 .i64 L.length (by omega) (by omega)
  obtain ⟨ob, hob⟩ : ∃ ob, wr.heap.size = ob := ⟨_, rfl⟩
  have hl1 := h.make1 L.length 4 (.bool false)
  rw [hob] at hl1
  obtain ⟨a0, cap0, -, -, c2, -⟩ := h.rgr.parts
  have HV := Lib.hid (And.intro hv hvn); have HL1 := Lib.hid hl1; have HWF := Lib.hid hwf
  clear h hl1 hv hvn hwf
  go_enter Try.func39, Try.ntmps39
  go_upto_region 4 with fail
  clear hob hmk1 c2
  refine wp_abs (fun w1 => Lab w0 w1 (Thing.fn ob 4 L.length (fun _ => .bool false) :: Thing.rgraph F I rb W room L :: ts)) HL1.out ?_
  clear HL1
  rintro w1 hl
  have HL1 := Lib.hid hl
  clear hl
  go_wp2
  go_loopw [7] (fun i wx => ∃ k : Nat, k ≤ n ∧ i = .int .i64 k ∧ InL L (us.take k) ∧ Lab w0 wx (Thing.fn ob 4 L.length (fun i => .bool (markA (fun _ => false) (us.take k) i)) :: Thing.rgraph F I rb W room L :: ts)) (fun i _ => n - (intOf i).toNat)
  case atStart => exact ⟨0, by omega, rfl, by simp [InL], by rw [List.take_zero, markA_nil]; exact HL1.out⟩
  case round =>
    obtain ⟨k, hk, rfl, hin, hl⟩ := hrel
    clear HL1
    by_cases hlt : k < n
    · have hlt' : (k : Int) < (n : Int) := by omega
      obtain ⟨b, off, x, rfl, hc, hx⟩ := HV.out.1.parts' hlt
      have hc1 := cell_later hl.below hc
      have hnext : us.take (k + 1) = us.take k ++ [x] := by rw [List.take_add_one, hx]; rfl
      have his := rIs_any hl.rgr2 x
      by_cases hxr : 0 ≤ x ∧ x < (L.length : Int)
      · rw [show isT L x = true from decide_eq_true hxr] at his
        obtain ⟨g2, rfl⟩ := Int.eq_ofNat_of_zero_le hxr.1
        have hg2 : (g2 : Int) < (L.length : Int) := hxr.2
        have d2 := hl.fn1.cell (i := g2) (by omega)
        have f2 := hl.fn1.frozen g2
        have HIS := Lib.hid his; have HL2 := Lib.hid hl; have HX := Lib.hid hx; have HIN := Lib.hid hin; have HN := Lib.hid hnext
        clear his hl hx hin hnext hxr hc
        go_wp2_with (go_at_call 51; refine HIS.out.mono ?_; rintro e w2 ⟨rfl, rfl⟩)
        go_roundw
        case rel =>
          have hl6 := (HL2.out.set g2 (.bool true)).fn_congr (g := fun i => .bool (markA (fun _ => false) (us.take (k + 1)) i)) (fun i _ => by rw [← markA_snoc HX.out]; by_cases e : i = g2 <;> simp [e])
          refine ⟨k + 1, by omega, by go_num, ?_, hl6⟩
          rw [HN.out]
          intro t ht
          rcases List.mem_append.1 ht with h1 | h1
          · exact HIN.out t h1
          · rw [List.mem_singleton.1 h1]; exact ⟨by omega, hg2⟩
        case measure => simp [intOf]; omega
      · rw [show isT L x = false from decide_eq_false hxr] at his
        have hno : ¬ InL L us := fun h => hxr (h x (List.mem_of_getElem? hx))
        have HIS := Lib.hid his; have HL2 := Lib.hid hl.drop
        clear his hl hx hin hnext hxr hc
        go_wp2_with (go_at_call 51; refine HIS.out.mono ?_; rintro e w2 ⟨rfl, rfl⟩)
        go_ret2
        exact ⟨fun h => absurd h hno, fun _ => ⟨rfl, HL2.out⟩⟩
    · obtain rfl : k = n := by omega
      have hlt' : ¬ (k : Int) < (k : Int) := by omega
      rw [List.take_of_length_le (by rw [HV.out.2]; exact Nat.le_refl _)] at hin hl
      have hst : markA (fun _ => false) us = fun i => us.any fun t => t.toNat == i := by funext i; simp [markA]
      rw [hst] at hl
      obtain ⟨a1, cap1, -, -, c2, -⟩ := hl.rgr2.parts
      have hwl : IntKind.i64.wrap ((L.length : Int) - 1) = (L.length : Int) - 1 := by simp [IntKind.wrap, IntKind.bits, IntKind.signed]; omega
      have HIN := Lib.hid hin; have HL3 := Lib.hid hl
      clear hin hl hst
      go_wp2
      clear c2 hwl
      go_loopw [8] (fun i wr => ∃ c : Int, -1 ≤ c ∧ c < (L.length : Int) ∧ i = .int .i64 c ∧ ∃ need, occDown L (c + 1).toNat need = occS L us ∧ Lab w0 wr (Thing.fn ob 4 L.length (fun i => .bool (need i)) :: Thing.rgraph F I rb W room L :: ts)) (fun i _ => (intOf i + 1).toNat)
      case atStart => exact ⟨(L.length : Int) - 1, by omega, by omega, rfl, fun i => us.any fun t => t.toNat == i, by rw [show ((L.length : Int) - 1 + 1).toNat = L.length by omega]; rfl, HL3.out⟩
      case round =>
        obtain ⟨c, hc0, hcM, rfl, need, hnd, hl⟩ := hrel
        clear HL3
        by_cases hcn : 0 ≤ c
        · obtain ⟨y, rfl⟩ := Int.eq_ofNat_of_zero_le hcn
          obtain ⟨nd, hi⟩ : ∃ nd, L[y]? = some nd := ⟨_, List.getElem?_eq_getElem (by omega)⟩
          rw [show ((y : Int) + 1).toNat = y + 1 by omega] at hnd
          have hok := (HWF.out.ok nd (List.mem_of_getElem? hi)).2.2
          have hary := aryN_le nd.1
          have hargs := HWF.out.args y nd hi
          have HL6 := Lib.hid hl; have HND := Lib.hid hnd; have HI := Lib.hid hi; have HARGS := Lib.hid hargs
          clear hl hnd hi hargs
          cases hs : need y with
          | false =>
            have HS := Lib.hid hs
            clear hs
            go_wp2
            go_loopw [9] (fun k wr => k = .int .i64 0 ∧ Lab w0 wr (Thing.fn ob 4 L.length (fun i => .bool (need i)) :: Thing.rgraph F I rb W room L :: ts)) (fun _ _ => 0)
            case atStart => exact ⟨rfl, HL6.out⟩
            case round =>
              obtain ⟨rfl, hl⟩ := hrel
              have d1 := hl.fn1.cell (i := y) (by omega)
              rw [HS.out] at d1
              obtain ⟨g, cap, va, c2, k0, k1, k2, hva⟩ := hl.rgr2.node HI.out
              obtain ⟨a, m, cc, rfl, hm, -⟩ := hva.slice.parts
              have HL8 := Lib.hid hl
              clear hl hva k0 k1
              have q0 : ((0 : Int) < (m : Int)) ∨ ¬ ((0 : Int) < (m : Int)) := by omega
              rcases q0 with q0 | q0
              all_goals go_wp2
              all_goals go_roundw
              all_goals first | (case rel => exact ⟨(y : Int) - 1, by omega, by omega, by go_num, need, by rw [show ((y : Int) - 1 + 1).toNat = y by omega, ← HND.out]; show _ = occDown L y (occStep L y need); rw [occStep_no HS.out], HL8.out⟩) | (case measure => simp [intOf] <;> omega)
          | true =>
            have HS := Lib.hid hs
            clear hs
            go_wp2
            go_loopw [9] (fun k wr => ∃ j : Nat, j ≤ nd.2.2.length ∧ k = .int .i64 j ∧ Lab w0 wr (Thing.fn ob 4 L.length (fun i => .bool (markA need (nd.2.2.take j) i)) :: Thing.rgraph F I rb W room L :: ts)) (fun k _ => nd.2.2.length - (intOf k).toNat)
            case atStart => exact ⟨0, by omega, rfl, by rw [List.take_zero, markA_nil]; exact HL6.out⟩
            case round =>
              obtain ⟨j, hj, rfl, hl⟩ := hrel
              have d1 := hl.fn1.cell (i := y) (by omega)
              rw [show markA need (nd.2.2.take j) y = true by unfold markA; rw [HS.out]; rfl] at d1
              obtain ⟨g, cap, va, c2, k0, k1, k2, hva⟩ := hl.rgr2.node HI.out
              obtain ⟨a, m, cc, rfl, hm, -⟩ := hva.slice.parts
              by_cases hlt : j < nd.2.2.length
              · obtain ⟨b, off, u, rfl, hc, hu⟩ := SliceOf.parts' hva.slice (i := j) (by omega)
                have hub := HARGS.out u (List.mem_of_getElem? hu)
                obtain ⟨g2, rfl⟩ := Int.eq_ofNat_of_zero_le hub.1
                have hgz : (g2 : Int) < (L.length : Int) := by omega
                have hjm : (j : Int) < (m : Int) := by omega
                have d2 := hl.fn1.cell (i := g2) (by omega)
                have f2 := hl.fn1.frozen g2
                have HL9 := Lib.hid hl; have HU := Lib.hid hu
                clear hl hva hu hub k0 k1 hm
                go_wp2
                go_roundw
                case rel =>
                  have hl6 := (HL9.out.set g2 (.bool true)).fn_congr (g := fun i => .bool (markA need (nd.2.2.take (j + 1)) i)) (fun i _ => by rw [← markA_snoc HU.out]; by_cases e : i = g2 <;> simp [e])
                  exact ⟨j + 1, by omega, by go_num, hl6⟩
                case measure => simp [intOf]; omega
              · obtain rfl : j = nd.2.2.length := by omega
                have hjm : ¬ ((nd.2.2.length : Int) < (m : Int)) := by omega
                rw [List.take_length, markA_all HI.out HS.out] at hl
                have HL9 := Lib.hid hl
                clear hl hva k0 k1 hm
                go_wp2
                go_roundw
                case rel =>
                  exact ⟨(y : Int) - 1, by omega, by omega, by go_num, occStep L y need, by rw [show ((y : Int) - 1 + 1).toNat = y by omega]; exact HND.out, HL9.out⟩
                case measure => simp [intOf] <;> omega
        · obtain rfl : c = -1 := by omega
          have hnd' : need = occS L us := hnd
          subst hnd'
          have HL6 := Lib.hid hl
          clear hl hnd
          go_wp2
          go_ret2
          exact ⟨fun _ => ⟨ob, rfl, HL6.out⟩, fun h => absurd HIN.out h⟩
end
end Go.Proofs.Ytofbadmjopefpaa
