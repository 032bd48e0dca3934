/- Law 13: does a variable occur in a term. -/
import Derived.Test.YtcpgiadhmmmafaaSubI
import Derived.Test.YtcpgiadhmmmafaaSimpY
namespace Go.Proofs.Ytcpgiadhmmmafaa
open Go.RowKit Go.Maps
set_option maxHeartbeats 3200000

/-- No node above a place is this variable. -/
def VarNot (L : List PNode) (t : Nat) (c : Int) (v : Nat) : Prop := ∀ (j : Nat) (nd : PNode), c < (j : Int) → occ L t j = true → L[j]? = some nd → nd.1 = 1 → nd.2.1 ≠ v
theorem VarNot.start {L : List PNode} {t v : Nat} (hw : WFL L) : VarNot L t (t : Int) v := fun j nd h1 h2 _ _ => by
  have := occ_le hw h2
  omega
theorem VarNot.next {L : List PNode} {t v y : Nat} {nd : PNode} (h : VarNot L t (y : Int) v) (hn : L[y]? = some nd) (hno : occ L t y = true → nd.1 = 1 → nd.2.1 ≠ v) : VarNot L t ((y : Int) - 1) v := fun j n h1 h2 h3 h4 => by
  by_cases e : j = y
  · subst e
    rw [hn] at h3
    obtain rfl := Option.some.inj h3
    exact hno h2 h4
  · exact h j n (by omega) h2 h3 h4
/-- What has answers. -/
def HasEnd (L : List PNode) (z v : Nat) (e : Ending) : Prop := ∃ B, e = .returned (.bool B) ∧ (B = true ↔ hasVar L z v)
section
variable {w0 wr w' : World} {ts : List Thing} {F I : List Nat} {gb W room : Nat} {L : List PNode}
set_option maxRecDepth 100000 in
theorem Lab.has (h : Lab w0 wr (Thing.graph F I gb W room L :: ts)) (z : Nat) (hz : z < L.length) (v : Nat) (hv : v ≤ 9223372036854775807) :
    Calls Try.prog 45 #[.pointer (some ⟨gb, 0, none⟩), .int .i64 z, .int .i64 v] wr fun e w' => HasEnd L z v e ∧ Lab w0 w' (Thing.graph F I gb W room L :: ts) := by
  have hll : L.length ≤ 1048576 := by have := h.gr.len; have := h.gr.r2; omega
  have hwf := h.gr.wf
  have hvm : IntKind.u64.wrap (v : Int) = (v : Int) := by simp [IntKind.wrap, IntKind.bits, IntKind.signed]; omega
  obtain ⟨ob, hob⟩ : ∃ ob, wr.heap.size = ob := ⟨_, rfl⟩
  have hm1 := h.new_map 3 .i64
  rw [hob] at hm1
  obtain ⟨hr1, c1, hm2⟩ := Lab.sput (T := 127) (E := 4) (S := fun _ => false) (k := (z : Int)) ⟨0, hm1.mapf_congr (fun _ => rfl)⟩ Try.underlying3 Try.underlying127 (wf_i64 (by omega) (by omega))
  obtain ⟨w2, hw2⟩ : ∃ w2, mapW Try.prog 127 ob (.int .i64 z) (.bool true) (wr.alloc (.map #[] 0)) = w2 := ⟨_, rfl⟩
  rw [hw2] at hr1 hm2
  have hm4 := (hm2.mapf_congr (g := setF (nS fun i => i == z)) (fun k => by
    have : (if k = (z : Int) then true else false) = nS (fun i => i == z) k := by
      unfold nS
      by_cases hk : 0 ≤ k
      · obtain ⟨n, rfl⟩ := Int.eq_ofNat_of_zero_le hk
        by_cases e : n = z
        · subst e; simp
        · rw [if_neg (by omega)]; simp [e]
      · rw [if_neg (by omega)]; simp [hk]
    exact setF_congr this))
  have HM4 := Lib.hid hm4; have HWF := Lib.hid hwf
  have hmm := @run_makeMap Try.prog
  clear hm1 hm2 hm4 hw2 h hwf
  go_enter Try.func45, Try.ntmps45
  go_upto_region 2 with fail
  refine wp_abs (fun wx => ∃ c1, Lab w0 wx (Thing.mapf 3 .i64 ob (setF (nS fun i => i == z)) c1 :: Thing.graph F I gb W room L :: ts)) ⟨c1, HM4.out⟩ ?_
  clear hr1 hmm HM4 hob
  rintro w3 ⟨c1, hl3⟩
  have HL3 := Lib.hid hl3
  clear hl3
  go_wp2
  go_loopw [8] (fun i wr => ∃ c : Int, -1 ≤ c ∧ c ≤ (z : Int) ∧ i = .int .i64 c ∧ ∃ need, occDown L (c + 1).toNat need = occ L z ∧ VarNot L z c v ∧ ∃ c1, Lab w0 wr (Thing.mapf 3 .i64 ob (setF (nS need)) c1 :: Thing.graph F I gb W room L :: ts)) (fun i _ => (intOf i + 1).toNat)
  case atStart => exact ⟨z, by omega, by omega, rfl, _, rfl, VarNot.start HWF.out, c1, HL3.out⟩
  case round =>
    obtain ⟨c, hc0, hcz, rfl, need, hnd, hvo, c1', hl⟩ := hrel
    by_cases hcn : 0 ≤ c
    · obtain ⟨y, rfl⟩ := Int.eq_ofNat_of_zero_le hcn
      obtain ⟨nd, hi⟩ : ∃ nd, L[y]? = some nd := ⟨_, List.getElem?_eq_getElem (by omega)⟩
      rw [show ((y : Int) + 1).toNat = y + 1 by omega] at hnd
      have hnow := occ_now HWF.out hnd
      obtain ⟨op, num, xs⟩ := nd
      have hargs := HWF.out.args y _ hi
      have hok := HWF.out.ok _ (List.mem_of_getElem? hi)
      simp only at hargs hok
      have HL4 := Lib.hid hl.swap; have HND := Lib.hid hnd; have HVO := Lib.hid hvo; have HI := Lib.hid hi; have HARGS := Lib.hid hargs; have HOK := Lib.hid hok; have HNOW := Lib.hid hnow
      clear hl hnd hvo hi hargs hok hnow
      go_wp2_with fail
      go_at_call 52
      refine (HL4.out.node_at y _ HI.out).mono ?_
      rintro e w4 ⟨aa, am, ac, rfl, hl5⟩
      obtain ⟨p, hp⟩ : ∃ p, w4.heap.size = p := ⟨_, rfl⟩
      have hl6 := hl5.alloc #[.int .u8 op, .int .u64 num, .slice aa am ac] 106
      rw [hp] at hl6
      have HL6 := Lib.hid hl6.rot4
      clear hl5 hl6
      go_upto_region 6 with fail
      clear hp
      refine wp_abs (fun w5 => Lab w0 w5 (Thing.mapf 3 .i64 ob (setF (nS need)) c1' :: Thing.box p 106 #[.int .u8 op, .int .u64 num, .slice aa am ac] :: Thing.graph F I gb W room L :: Thing.ints (.slice aa am ac) xs :: ts)) HL6.out ?_
      clear HL6 HL4
      rintro w5 hl7
      have ham : am = xs.length := by obtain ⟨_, _, _, e, hl, _⟩ := hl7.ints4.slice; simp only [Value.slice.injEq] at e; omega
      have ham3 : am ≤ 3 := by rw [ham, HOK.out.2.2]; exact aryN_le op
      have HL7 := Lib.hid hl7; have HAM := Lib.hid ham
      clear hl7 ham
      cases hs : need y with
      | false =>
        have HS := Lib.hid hs
        clear hs
        go_wp2
        go_loopw [11] (fun k wr => k = .int .i64 0 ∧ Lab w0 wr (Thing.mapf 3 .i64 ob (setF (nS need)) c1' :: Thing.box p 106 #[.int .u8 op, .int .u64 num, .slice aa am ac] :: Thing.graph F I gb W room L :: Thing.ints (.slice aa am ac) xs :: ts)) (fun _ _ => 0)
        case atStart => exact ⟨rfl, HL7.out⟩
        case round =>
          obtain ⟨rfl, hl⟩ := hrel
          have hask := hl.mapf.ask (T := 127) (E := 4) Try.underlying3 Try.underlying127 (zeroBool _) (k := (y : Int)) (wf_i64 (by omega) (by omega))
          rw [nS_nat, HS.out] at hask
          obtain ⟨d0, d1, d2⟩ := cells3 hl.box2
          have HL8 := Lib.hid hl
          clear hl
          have q0 : ((0 : Int) < (am : Int)) ∨ ¬ ((0 : Int) < (am : Int)) := by omega
          rcases q0 with q0 | q0
          all_goals go_wp2
          all_goals go_roundw
          all_goals first | (case rel => exact ⟨(y : Int) - 1, by omega, by omega, by go_num, need, by rw [show ((y : Int) - 1 + 1).toNat = y by omega, ← HND.out]; show _ = occDown L y (occStep L y need); rw [occStep_no HS.out], HVO.out.next HI.out (fun h => by rw [HNOW.out, HS.out] at h; cases h), c1', HL8.out.sub (.cons_cons _ (.cons _ (.cons_cons _ (.cons _ (List.Sublist.refl _)))))⟩) | (case measure => simp [intOf] <;> omega)
      | true =>
        have HS := Lib.hid hs
        clear hs
        go_wp2
        go_loopw [11] (fun k wr => ∃ j : Nat, j ≤ am ∧ k = .int .i64 j ∧ ∃ c, Lab w0 wr (Thing.mapf 3 .i64 ob (setF (nS (markA need (xs.take j)))) c :: Thing.box p 106 #[.int .u8 op, .int .u64 num, .slice aa am ac] :: Thing.graph F I gb W room L :: Thing.ints (.slice aa am ac) xs :: ts)) (fun k _ => am - (intOf k).toNat)
        case atStart => exact ⟨0, by omega, rfl, c1', by rw [List.take_zero, markA_nil]; exact HL7.out⟩
        case round =>
          obtain ⟨j, hj, rfl, cc, hl⟩ := hrel
          have hask := hl.mapf.ask (T := 127) (E := 4) Try.underlying3 Try.underlying127 (zeroBool _) (k := (y : Int)) (wf_i64 (by omega) (by omega))
          rw [nS_nat, show markA need (xs.take j) y = true by unfold markA; rw [HS.out]; rfl] at hask
          obtain ⟨d0, d1, d2⟩ := cells3 hl.box2
          by_cases hlt : j < am
          · obtain ⟨b, off, u, rfl, hc, hu⟩ := hl.ints4.slice.parts' hlt
            have hub := HARGS.out u (List.mem_of_getElem? hu)
            obtain ⟨g, rfl⟩ := Int.eq_ofNat_of_zero_le hub.1
            obtain ⟨hr3, c4, hl9⟩ := Lab.sput (T := 127) (E := 4) (k := (g : Int)) ⟨cc, hl⟩ Try.underlying3 Try.underlying127 (wf_i64 (by omega) (by omega))
            have HL9 := Lib.hid hl9; have HU := Lib.hid hu
            clear hl9 hl hu hub
            go_wp2
            go_roundw
            case rel =>
              refine ⟨j + 1, by omega, by go_num, c4, HL9.out.mapf_congr fun k => ?_⟩
              have : (if k = (g : Int) then true else nS (markA need (xs.take j)) k) = nS (markA need (xs.take (j + 1))) k := by rw [nS_put, markA_snoc HU.out]
              exact setF_congr this
            case measure => simp [intOf]; omega
          · obtain rfl : j = am := by omega
            rw [List.take_of_length_le (by rw [HAM.out]; exact Nat.le_refl _), markA_all HI.out HS.out] at hl
            have HL9 := Lib.hid hl
            clear hl
            have HST : Hid (occDown L ((y : Int) - 1 + 1).toNat (occStep L y need) = occ L z) := Lib.hid (by rw [show ((y : Int) - 1 + 1).toNat = y by omega, ← HND.out]; rfl)
            by_cases hop : op = 1 ∧ num = v
            · have hq : ((op : Int) == 1) = true := by rw [beq_iff_eq]; omega
              have hq2 : ((num : Int) == (v : Int)) = true := by rw [beq_iff_eq]; omega
              have HOP := Lib.hid hop
              clear hop
              go_wp2
              go_ret
              exact ⟨⟨true, rfl, ⟨fun _ => ⟨y, _, HNOW.out.trans HS.out, HI.out, HOP.out.1, HOP.out.2⟩, fun _ => rfl⟩⟩, HL9.out.sub (.cons _ (.cons _ (.cons_cons _ (.cons _ (List.Sublist.refl _)))))⟩
            · have HOP := Lib.hid hop
              by_cases hop1 : op = 1
              · have hq : ((op : Int) == 1) = true := by rw [beq_iff_eq]; omega
                have hq2 : ((num : Int) == (v : Int)) = false := by rw [beq_eq_false_iff_ne]; omega
                clear hop hop1
                go_wp2
                go_roundw
                case rel => exact ⟨(y : Int) - 1, by omega, by omega, by go_num, _, HST.out, HVO.out.next HI.out (fun _ h1 h2 => HOP.out ⟨h1, h2⟩), cc, HL9.out.sub (.cons_cons _ (.cons _ (.cons_cons _ (.cons _ (List.Sublist.refl _)))))⟩
                case measure => simp [intOf] <;> omega
              · have hq : ((op : Int) == 1) = false := by rw [beq_eq_false_iff_ne]; omega
                clear hop hop1
                go_wp2
                go_roundw
                case rel => exact ⟨(y : Int) - 1, by omega, by omega, by go_num, _, HST.out, HVO.out.next HI.out (fun _ h1 h2 => HOP.out ⟨h1, h2⟩), cc, HL9.out.sub (.cons_cons _ (.cons _ (.cons_cons _ (.cons _ (List.Sublist.refl _)))))⟩
                case measure => simp [intOf] <;> omega
    · obtain rfl : c = -1 := by omega
      have HL4 := Lib.hid hl.drop
      have HV := Lib.hid hvo
      clear hl hvo hnd
      go_wp2
      go_ret
      refine ⟨⟨false, rfl, ⟨(fun h => by cases h), ?_⟩⟩, HL4.out⟩
      rintro ⟨j, nd, h1, h2, h3, h4⟩
      exact absurd h4 (HV.out j nd (by omega) h1 h2 h3)
end
end Go.Proofs.Ytcpgiadhmmmafaa
