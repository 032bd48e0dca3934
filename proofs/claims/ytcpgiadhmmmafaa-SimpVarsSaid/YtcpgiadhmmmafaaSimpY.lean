/- The variables that occur in a term, as SimpVars finds them. -/
import Derived.Test.YtcpgiadhmmmafaaSets
import Derived.Test.YtcpgiadhmmmafaaPlainP
import Derived.Test.YtcpgiadhmmmafaaSimpS
namespace Go.Proofs.Ytcpgiadhmmmafaa
open Go.RowKit Go.Maps
set_option maxHeartbeats 3200000

/-- Marked nodes, as a map's keys. -/
def nS (need : Nat → Bool) : Int → Bool := fun j => decide (0 ≤ j) && need j.toNat
theorem nS_nat (need : Nat → Bool) (i : Nat) : nS need (i : Int) = need i := by simp [nS]
theorem nS_put {need : Nat → Bool} {g : Nat} : ∀ j : Int, (if j = (g : Int) then true else nS need j) = nS (fun i => if i = g then true else need i) j := by
  intro j
  unfold nS
  by_cases h : 0 ≤ j
  · obtain ⟨n, rfl⟩ := Int.eq_ofNat_of_zero_le h
    by_cases e : n = g
    · subst e; simp
    · rw [if_neg (by omega)]; simp [e]
  · rw [if_neg (by omega)]; simp [h]
/-- The variables of the nodes above a place. -/
def VarsOf (L : List PNode) (t : Nat) (c : Int) (V : Int → Bool) : Prop := ∀ k : Int, V k = true ↔ ∃ (j : Nat) (nd : PNode), c < (j : Int) ∧ occ L t j = true ∧ L[j]? = some nd ∧ nd.1 = 1 ∧ (nd.2.1 : Int) = k
section
variable {L : List PNode} {t y : Nat} {V : Int → Bool} {need : Nat → Bool}
theorem VarsOf.start (hw : WFL L) (t : Nat) : VarsOf L t (t : Int) (fun _ => false) := by
  intro k
  constructor
  · intro h; cases h
  · rintro ⟨j, nd, h1, h2, _⟩
    have := occ_le hw h2
    omega
theorem occ_now (hw : WFL L) (h : occDown L (y + 1) need = occ L t) : occ L t y = need y := by
  rw [← h]
  show occDown L y (occStep L y need) y = _
  rw [occDown_same hw y _ (Nat.le_refl _)]
  unfold occStep
  cases need y <;> simp
theorem VarsOf.skip (h : VarsOf L t (y : Int) V) (hn : occ L t y = false ∨ ∃ nd, L[y]? = some nd ∧ nd.1 ≠ 1) : VarsOf L t ((y : Int) - 1) V := by
  intro k
  rw [h k]
  constructor
  · rintro ⟨j, nd, h1, h2⟩
    exact ⟨j, nd, by omega, h2⟩
  · rintro ⟨j, nd, h1, h2, h3, h4, h5⟩
    have : j ≠ y := by
      rintro rfl
      rcases hn with hn | ⟨nd', hn, hne⟩
      · rw [hn] at h2; cases h2
      · rw [hn] at h3
        obtain rfl := Option.some.inj h3
        exact hne h4
    exact ⟨j, nd, by omega, h2, h3, h4, h5⟩
theorem VarsOf.put {nd : PNode} (h : VarsOf L t (y : Int) V) (ho : occ L t y = true) (hn : L[y]? = some nd) (h1 : nd.1 = 1) : VarsOf L t ((y : Int) - 1) (fun j => if j = (nd.2.1 : Int) then true else V j) := by
  intro k
  by_cases e : k = (nd.2.1 : Int)
  · simp only [e, if_true, true_iff]
    exact ⟨y, nd, by omega, ho, hn, h1, rfl⟩
  · simp only [e, if_false]
    rw [h k]
    constructor
    · rintro ⟨j, nd, h1, h2⟩
      exact ⟨j, nd, by omega, h2⟩
    · rintro ⟨j, nd', h1', h2, h3, h4, h5⟩
      have : j ≠ y := by
        rintro rfl
        rw [hn] at h3
        obtain rfl := Option.some.inj h3
        exact e h5.symm
      exact ⟨j, nd', by omega, h2, h3, h4, h5⟩
theorem VarsOf.has (h : VarsOf L t (-1) V) (k : Int) : V k = true ↔ ∃ v : Nat, k = (v : Int) ∧ hasVar L t v := by
  rw [h k]
  constructor
  · rintro ⟨j, nd, h1, h2, h3, h4, h5⟩
    exact ⟨nd.2.1, h5.symm, j, nd, h2, h3, h4, rfl⟩
  · rintro ⟨v, rfl, j, nd, h2, h3, h4, rfl⟩
    exact ⟨j, nd, by omega, h2, h3, h4, rfl⟩
end
section
variable {w0 wr w' : World} {ts : List Thing} {F I : List Nat} {gb W room : Nat} {L : List PNode}
set_option maxRecDepth 100000 in
theorem Lab.occurring (h : Lab w0 wr (Thing.graph F I gb W room L :: ts)) (z : Nat) (hz : z < L.length) :
    Calls Try.prog 47 #[.pointer (some ⟨gb, 0, none⟩), .int .i64 z] wr fun e w' => ∃ vb V c, e = .returned (.map (some vb)) ∧ (∀ k : Int, V k = true ↔ ∃ v : Nat, k = (v : Int) ∧ hasVar L z v) ∧ Lab w0 w' (Thing.mapf 22 .u64 vb (setF V) c :: Thing.graph F I gb W room L :: ts) := by
  have hll : L.length ≤ 1048576 := by have := h.gr.len; have := h.gr.r2; omega
  have hwf := h.gr.wf
  obtain ⟨ob, hob⟩ : ∃ ob, wr.heap.size = ob := ⟨_, rfl⟩
  have hm1 := h.new_map 3 .i64
  rw [hob] at hm1
  obtain ⟨hr1, c1, hm2⟩ := Lab.sput (T := 127) (E := 4) (S := fun _ => false) (k := (z : Int)) ⟨0, hm1.mapf_congr (fun _ => rfl)⟩ Try.underlying3 Try.underlying127 (wf_i64 (by omega) (by omega))
  obtain ⟨w2, hw2⟩ : ∃ w2, mapW Try.prog 127 ob (.int .i64 z) (.bool true) (wr.alloc (.map #[] 0)) = w2 := ⟨_, rfl⟩
  rw [hw2] at hr1 hm2
  obtain ⟨vb, hvb⟩ : ∃ vb, w2.heap.size = vb := ⟨_, rfl⟩
  have hm3 := (hm2.new_map 22 .u64).mapf_congr (g := setF fun _ => false) (fun _ => rfl)
  rw [hvb] at hm3
  have hm4 := (hm3.swap.mapf_congr (g := setF (nS fun i => i == z)) (fun k => by
    have : (if k = (z : Int) then true else false) = nS (fun i => i == z) k := by
      unfold nS
      by_cases hk : 0 ≤ k
      · obtain ⟨n, rfl⟩ := Int.eq_ofNat_of_zero_le hk
        by_cases e : n = z
        · subst e; simp
        · rw [if_neg (by omega)]; simp [e]
      · rw [if_neg (by omega)]; simp [hk]
    exact setF_congr this)).swap
  have HM4 := Lib.hid hm4; have HWF := Lib.hid hwf
  have hmm := @run_makeMap Try.prog
  clear hm1 hm2 hm3 hm4 hw2 h hwf
  go_enter Try.func47, Try.ntmps47
  go_upto_region 2 with fail
  refine wp_abs (fun wx => ∃ c1 c2, Lab w0 wx (Thing.mapf 22 .u64 vb (setF fun _ => false) c2 :: Thing.mapf 3 .i64 ob (setF (nS fun i => i == z)) c1 :: Thing.graph F I gb W room L :: ts)) ⟨c1, 0, HM4.out⟩ ?_
  clear hr1 hmm HM4 hob hvb
  rintro w3 ⟨c1, c2, hl3⟩
  have HL3 := Lib.hid hl3
  clear hl3
  go_wp2
  go_loopw [7] (fun i wr => ∃ c : Int, -1 ≤ c ∧ c ≤ (z : Int) ∧ i = .int .i64 c ∧ ∃ need V, occDown L (c + 1).toNat need = occ L z ∧ VarsOf L z c V ∧ ∃ c1 c2, Lab w0 wr (Thing.mapf 22 .u64 vb (setF V) c2 :: Thing.mapf 3 .i64 ob (setF (nS need)) c1 :: Thing.graph F I gb W room L :: ts)) (fun i _ => (intOf i + 1).toNat)
  case atStart => exact ⟨z, by omega, by omega, rfl, _, _, rfl, VarsOf.start HWF.out z, c1, c2, HL3.out⟩
  case round =>
    obtain ⟨c, hc0, hcz, rfl, need, V, hnd, hvo, c1', c2', hl⟩ := hrel
    by_cases hcn : 0 ≤ c
    · obtain ⟨y, rfl⟩ := Int.eq_ofNat_of_zero_le hcn
      obtain ⟨nd, hi⟩ : ∃ nd, L[y]? = some nd := ⟨_, List.getElem?_eq_getElem (by omega)⟩
      rw [show ((y : Int) + 1).toNat = y + 1 by omega] at hnd
      have hnow := occ_now HWF.out hnd
      obtain ⟨op, num, xs⟩ := nd
      have hargs := HWF.out.args y _ hi
      have hok := HWF.out.ok _ (List.mem_of_getElem? hi)
      simp only at hargs hok
      have HL4 := Lib.hid hl.rot3; have HND := Lib.hid hnd; have HVO := Lib.hid hvo; have HI := Lib.hid hi; have HARGS := Lib.hid hargs; have HOK := Lib.hid hok; have HNOW := Lib.hid hnow
      clear hl hnd hvo hi hargs hok hnow
      go_wp2_with fail
      go_at_call 52
      refine (HL4.out.node_at y _ HI.out).mono ?_
      rintro e w4 ⟨aa, am, ac, rfl, hl5⟩
      obtain ⟨p, hp⟩ : ∃ p, w4.heap.size = p := ⟨_, rfl⟩
      have hl6 := hl5.alloc #[.int .u8 op, .int .u64 num, .slice aa am ac] 106
      rw [hp] at hl6
      have HL6 := Lib.hid hl6.rot5
      clear hl5 hl6
      go_upto_region 6 with fail
      clear hp
      refine wp_abs (fun w5 => Lab w0 w5 (Thing.mapf 3 .i64 ob (setF (nS need)) c1' :: Thing.box p 106 #[.int .u8 op, .int .u64 num, .slice aa am ac] :: Thing.graph F I gb W room L :: Thing.ints (.slice aa am ac) xs :: Thing.mapf 22 .u64 vb (setF V) c2' :: ts)) HL6.out ?_
      clear HL6 HL4
      rintro w5 hl7
      have ham : am = xs.length := by obtain ⟨_, _, _, e, hl, _⟩ := hl7.ints4.slice; simp only [Value.slice.injEq] at e; omega
      have ham3 : am ≤ 3 := by rw [ham, HOK.out.2.2]; exact aryN_le op
      have HL7 := Lib.hid hl7; have HAM := Lib.hid ham
      clear hl7 ham
      cases hs : need y with
      | false =>
        have HS := Lib.hid hs
        clear hs
        go_wp2
        go_loopw [10] (fun k wr => k = .int .i64 0 ∧ Lab w0 wr (Thing.mapf 3 .i64 ob (setF (nS need)) c1' :: Thing.box p 106 #[.int .u8 op, .int .u64 num, .slice aa am ac] :: Thing.graph F I gb W room L :: Thing.ints (.slice aa am ac) xs :: Thing.mapf 22 .u64 vb (setF V) c2' :: ts)) (fun _ _ => 0)
        case atStart => exact ⟨rfl, HL7.out⟩
        case round =>
          obtain ⟨rfl, hl⟩ := hrel
          have hask := hl.mapf.ask (T := 127) (E := 4) Try.underlying3 Try.underlying127 (zeroBool _) (k := (y : Int)) (wf_i64 (by omega) (by omega))
          rw [nS_nat, HS.out] at hask
          obtain ⟨d0, d1, d2⟩ := cells3 hl.box2
          have HL8 := Lib.hid hl
          clear hl
          have q0 : ((0 : Int) < (am : Int)) ∨ ¬ ((0 : Int) < (am : Int)) := by omega
          rcases q0 with q0 | q0
          all_goals go_wp2
          all_goals go_roundw
          all_goals first | (case rel => exact ⟨(y : Int) - 1, by omega, by omega, by go_num, need, V, by rw [show ((y : Int) - 1 + 1).toNat = y by omega, ← HND.out]; show _ = occDown L y (occStep L y need); rw [occStep_no HS.out], HVO.out.skip (.inl (HNOW.out.trans HS.out)), c1', c2', HL8.out.rot5.sub (.cons_cons _ (.cons_cons _ (.cons _ (.cons_cons _ (.cons _ (List.Sublist.refl _))))))⟩) | (case measure => simp [intOf] <;> omega)
      | true =>
        have HS := Lib.hid hs
        clear hs
        go_wp2
        go_loopw [10] (fun k wr => ∃ j : Nat, j ≤ am ∧ k = .int .i64 j ∧ ∃ c, Lab w0 wr (Thing.mapf 3 .i64 ob (setF (nS (markA need (xs.take j)))) c :: Thing.box p 106 #[.int .u8 op, .int .u64 num, .slice aa am ac] :: Thing.graph F I gb W room L :: Thing.ints (.slice aa am ac) xs :: Thing.mapf 22 .u64 vb (setF V) c2' :: ts)) (fun k _ => am - (intOf k).toNat)
        case atStart => exact ⟨0, by omega, rfl, c1', by rw [List.take_zero, markA_nil]; exact HL7.out⟩
        case round =>
          obtain ⟨j, hj, rfl, cc, hl⟩ := hrel
          have hask := hl.mapf.ask (T := 127) (E := 4) Try.underlying3 Try.underlying127 (zeroBool _) (k := (y : Int)) (wf_i64 (by omega) (by omega))
          rw [nS_nat, show markA need (xs.take j) y = true by unfold markA; rw [HS.out]; rfl] at hask
          obtain ⟨d0, d1, d2⟩ := cells3 hl.box2
          by_cases hlt : j < am
          · obtain ⟨b, off, u, rfl, hc, hu⟩ := hl.ints4.slice.parts' hlt
            have hub := HARGS.out u (List.mem_of_getElem? hu)
            obtain ⟨g, rfl⟩ := Int.eq_ofNat_of_zero_le hub.1
            obtain ⟨hr3, c4, hl9⟩ := Lab.sput (T := 127) (E := 4) (k := (g : Int)) ⟨cc, hl⟩ Try.underlying3 Try.underlying127 (wf_i64 (by omega) (by omega))
            have HL9 := Lib.hid hl9; have HU := Lib.hid hu
            clear hl9 hl hu hub
            go_wp2
            go_roundw
            case rel =>
              refine ⟨j + 1, by omega, by go_num, c4, HL9.out.mapf_congr fun k => ?_⟩
              have : (if k = (g : Int) then true else nS (markA need (xs.take j)) k) = nS (markA need (xs.take (j + 1))) k := by rw [nS_put, markA_snoc HU.out]
              exact setF_congr this
            case measure => simp [intOf]; omega
          · obtain rfl : j = am := by omega
            rw [List.take_of_length_le (by rw [HAM.out]; exact Nat.le_refl _), markA_all HI.out HS.out] at hl
            have HL9 := Lib.hid hl
            clear hl
            have HST : Hid (occDown L ((y : Int) - 1 + 1).toNat (occStep L y need) = occ L z) := Lib.hid (by rw [show ((y : Int) - 1 + 1).toNat = y by omega, ← HND.out]; rfl)
            by_cases hop : op = 1
            · have hq : ((op : Int) == 1) = true := by rw [beq_iff_eq]; omega
              obtain ⟨hr2, c3, hl8⟩ := Lab.sput (T := 92) (E := 4) (k := (num : Int)) ⟨c2', HL9.out.rot5⟩ Try.underlying22 Try.underlying92 (wf_u64 (by omega) (by have : num ≤ 18446744073709551615 := HOK.out.2.1; omega))
              have HL8 := Lib.hid hl8
              have HOP := Lib.hid hop
              clear hl8 hop
              go_wp2
              go_roundw
              case rel => exact ⟨(y : Int) - 1, by omega, by omega, by go_num, _, _, HST.out, HVO.out.put (HNOW.out.trans HS.out) HI.out HOP.out, cc, c3, HL8.out.sub (.cons_cons _ (.cons_cons _ (.cons _ (.cons_cons _ (.cons _ (List.Sublist.refl _))))))⟩
              case measure => simp [intOf] <;> omega
            · have hq : ((op : Int) == 1) = false := by rw [beq_eq_false_iff_ne]; omega
              have HOP := Lib.hid hop
              clear hop
              go_wp2
              go_roundw
              case rel => exact ⟨(y : Int) - 1, by omega, by omega, by go_num, _, V, HST.out, HVO.out.skip (.inr ⟨_, HI.out, HOP.out⟩), cc, c2', HL9.out.rot5.sub (.cons_cons _ (.cons_cons _ (.cons _ (.cons_cons _ (.cons _ (List.Sublist.refl _))))))⟩
              case measure => simp [intOf] <;> omega
    · obtain rfl : c = -1 := by omega
      have HL4 := Lib.hid hl
      have HV := Lib.hid hvo.has
      clear hl hvo hnd
      go_wp2
      go_ret
      exact ⟨vb, rfl, V, HV.out, c2', HL4.out.swap.drop⟩
end
end Go.Proofs.Ytcpgiadhmmmafaa
