/- Package subst: what a node with arguments becomes. -/
import Derived.Test.YtcpgiadhmmmafaaSubB
namespace Go.Proofs.Ytcpgiadhmmmafaa
open Go.RowKit Go.Maps
set_option maxHeartbeats 3200000

/-- How node ends. -/
def nodeEnd (R : List PNode × Nat × Nat) : Ending :=
  if R.2.2 = 0 then .returned (.int .i64 R.2.1) else .panicked [{ v := .iface 134 (.agg #[.int .i64 R.2.2]), recovered := false }]
section
variable {w0 wr w' : World} {ts : List Thing} {F I : List Nat} {gb W room pb mB mV cB cV : Nat} {L : List PNode} {fB fV : Int → Option Value}
set_option maxRecDepth 100000 in
theorem node_app (h : Lab w0 wr (Thing.graph F I gb W room L :: (replThings pb gb mB mV fB fV cB cV ++ ts))) (t : Int) (o num : Nat) (ho : o ≤ 255) (ho1 : o ≠ 1) (va : Value) (xs : List Int) (hs : SliceOf wr .i64 va xs) (hx0 : xs ≠ []) (hx3 : xs.length ≤ 3)
    (hxi : ∀ a ∈ xs, (0 : Int) ≤ a ∧ a ≤ 9223372036854775807) (mm : Int → Int) (hB : ∀ a ∈ xs, fB a = some (.int .i64 (mm a))) {R : List PNode × Nat × Nat} (hR : simpR W room L o (xs.map mm) = R) :
    Calls Try.prog 62 #[.pointer (some ⟨pb, 0, none⟩), .int .i64 t, .agg #[.int .u8 o, .int .u64 num, va]] wr fun e w' => e = nodeEnd R ∧ ∃ F' I', Lab w0 w' (Thing.graph F' I' gb W room R.1 :: (replThings pb gb mB mV fB fV cB cV ++ ts)) := by
  obtain ⟨a, m, c, rfl, hm, -⟩ := hs.parts
  have hm0 : m ≠ 0 := fun e => hx0 (List.length_eq_zero_iff.1 (by omega))
  have hm3 : m ≤ 3 := by omega
  have hq0 : ((m : Int) == 0) = false := by rw [beq_eq_false_iff_ne]; omega
  have hq1 : ((o : Int) == 1) = false := by rw [beq_eq_false_iff_ne]; omega
  have hmk := fun w => run_make_row' (P := Try.prog) 33 3 (.int .i64 0) 8 Try.underlying33 Try.infoI64 rfl .i64 .i64 m (by omega) (by omega) (w := w)
  obtain ⟨q, hq⟩ : ∃ q, wr.heap.size = q := ⟨_, rfl⟩
  have hl1 := h.alloc #[.int .u8 o, .int .u64 num, .slice a m c] 106
  have hs1 := hs.below (below_new wr (.cells #[.int .u8 o, .int .u64 num, .slice a m c] 106))
  rw [hq] at hl1
  have HL := Lib.hid hl1; have HS := Lib.hid hs1; have HR := Lib.hid hR; have HB := Lib.hid hB; have HM := Lib.hid hm; have HXI := Lib.hid hxi
  clear h hl1 hs1 hs hR hB hx0 hx3 hm hxi
  go_enter Try.func62, Try.ntmps62
  go_upto_region 1 with fail
  clear hq
  refine wp_abs (fun w1 => Lab w0 w1 (Thing.box q 106 #[.int .u8 o, .int .u64 num, .slice a m c] :: Thing.graph F I gb W room L :: (replThings pb gb mB mV fB fV cB cV ++ ts)) ∧ SliceOf w1 .i64 (.slice a m c) xs) ⟨HL.out, HS.out⟩ ?_
  clear HL HS
  rintro w1 ⟨hl, hs⟩
  obtain ⟨e0, e1, e2⟩ := cells3 hl.box1
  obtain ⟨ab, hab⟩ : ∃ ab, w1.heap.size = ab := ⟨_, rfl⟩
  have hl2 := (Lab.nil (Below.refl w1.heap.size w1)).make1 m 3 (.int .i64 0)
  rw [hab] at hl2
  have HL := Lib.hid hl.swap; have HS := Lib.hid hs; have HL2 := Lib.hid hl2
  clear hl hs hl2
  go_upto_region 8 with fail
  clear hab hmk e0 e1 e2
  refine wp_abs (fun w2 => Lab w1 w2 [Thing.fn ab 3 m (fun _ => .int .i64 0)]) HL2.out ?_
  clear HL2
  rintro w2 hl
  obtain ⟨e0, e1, e2⟩ := cells3 (HL.out.later hl.below).box2
  have HL2 := Lib.hid hl
  clear hl
  go_wp2
  go_loopw [41] (fun i wx => ∃ k : Nat, k ≤ m ∧ i = .int .i64 k ∧ Lab w1 wx [Thing.fn ab 3 m (fun j => .int .i64 (if j < k then (xs.map mm).getD j 0 else 0))]) (fun i _ => m - (intOf i).toNat)
  case atStart => exact ⟨0, by omega, rfl, HL2.out.fn_congr fun i _ => by simp⟩
  case round =>
    clear HL2 e0 e1 e2
    obtain ⟨k, hk, rfl, hl⟩ := hrel
    have hg := HL.out.later hl.below
    have hbp := hg.box3
    obtain ⟨p0, p1, p2⟩ := cells3 hbp
    by_cases hlt : k < m
    · have hlt' : (k : Int) < (m : Int) := by omega
      obtain ⟨b, off, u, rfl, hc, hu⟩ := (HS.out.below hl.below).parts' hlt
      have hmem := List.mem_of_getElem? hu
      have hui := HXI.out u hmem
      have hlook := MapF.hit (T := 129) (E := 3) hg.fourth Try.underlying3 Try.underlying129 (wf_i64 (k := u) (by omega) (by omega)) (HB.out u hmem) false
      have d1 := hl.fn1.cell hlt
      have f1 := hl.fn1.frozen k
      have hval : (xs.map mm).getD k 0 = mm u := by rw [List.getD_eq_getElem?_getD, List.getElem?_map, hu]; rfl
      have HL3 := Lib.hid hl; have HV := Lib.hid hval
      clear hl hg hbp hmem hval hu hui p2
      go_wp2
      go_roundw
      case rel =>
        refine ⟨k + 1, by omega, by go_num, (HL3.out.set k (.int .i64 (mm u))).fn_congr fun j _ => ?_⟩
        by_cases e : j = k
        · subst e; rw [if_pos rfl, if_pos (by omega), HV.out]
        · rw [if_neg e]
          by_cases e2 : j < k
          · rw [if_pos e2, if_pos (by omega)]
          · rw [if_neg e2, if_neg (by omega)]
      case measure => simp [intOf]; omega
    · obtain rfl : k = m := by omega
      have hlt' : ¬ (k : Int) < (k : Int) := by omega
      have hsl2 : SliceOf wr (.i64) (.slice (some ⟨ab, 0, none⟩) k k) (xs.map mm) := slice_of_row hl.fn1 (by rw [List.length_map]; exact HM.out) (fun j hj => by rw [if_pos hj])
      have hgd := hg.drew1
      have hcall := sapp_any hgd.gr o ho (xs.map mm) _ (hsl2.below ((Below.refl _ _).drew))
      rw [HR.out] at hcall
      obtain ⟨e0, e1, e2⟩ := cells3 hg.box2
      have HG := Lib.hid hgd; have HC := Lib.hid hcall
      clear hl hg hbp hsl2 hgd hcall p1 p2 e1 e2
      go_upto_region 13 with fail
      go_region_held3 (fun w' => w'.cell? ⟨pb, 0, none⟩ = some (.pointer (some ⟨gb, 0, none⟩)) ∧ w'.cell? ⟨q, 0, none⟩ = some (.int .u8 o)) (first | exact ⟨p0, e0⟩ | exact ⟨by assumption, by assumption⟩ | go_keep | trivial)
        (first | (go_at_call 26; refine HC.out.mono ?_; intro e w4 hp; obtain ⟨F2, I2, rfl, hl3⟩ := HG.out.gpost hp; obtain ⟨m0, -, -⟩ := cells3 hl3.box2; obtain ⟨n0, -, -⟩ := cells3 hl3.box3))
      have HL3 := Lib.hid hl3
      clear hl3
      obtain ⟨L9, t9, e9⟩ := R
      by_cases he : e9 = 0
      · subst he
        go_wp2
        go_ret
        exact ⟨rfl, F2, I2, HL3.out.swap.drop⟩
      · have q3 : ((e9 : Int) != 0) = true := by rw [bne_iff_ne]; omega
        have hne : nodeEnd (L9, t9, e9) = .panicked [{ v := .iface 134 (.agg #[.int .i64 e9]), recovered := false }] := by unfold nodeEnd; rw [if_neg he]
        have HNE := Lib.hid hne
        clear hne he
        go_wp2
        exact ⟨rfl, HNE.out.symm, F2, I2, HL3.out.swap.drop⟩
end
end Go.Proofs.Ytcpgiadhmmmafaa
