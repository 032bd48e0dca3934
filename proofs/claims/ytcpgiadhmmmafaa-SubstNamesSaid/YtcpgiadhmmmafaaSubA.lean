/- Package subst: what a node becomes. -/
import Derived.Test.YtcpgiadhmmmafaaSimpS
import Derived.Test.YtcpgiadhmmmafaaSets
import Derived.WalkSmall
namespace Go.Proofs.Ytcpgiadhmmmafaa
open Go.RowKit Go.Maps
set_option maxHeartbeats 1600000

/-- A replacer, with its maps, ahead of its graph. -/
def replThings (pb gb mB mV : Nat) (fB fV : Int → Option Value) (cB cV : Nat) : List Thing :=
  [Thing.box pb 132 #[.pointer (some ⟨gb, 0, none⟩), .map (some mB), .map (some mV)], Thing.mapf 3 .i64 mB fB cB, Thing.mapf 22 .u64 mV fV cV]
theorem zeroInt (w : World) : (zeroValue 3).run Try.prog w = .ok (.int .i64 0) w := by kernel_rfl
section
variable {w0 wr w' : World} {ts : List Thing} {F I : List Nat} {gb W room pb mB mV cB cV : Nat} {L : List PNode} {fB fV : Int → Option Value}
set_option maxRecDepth 100000 in
/-- A leaf. -/
theorem node_leaf (h : Lab w0 wr (replThings pb gb mB mV fB fV cB cV ++ ts)) (t : Int) (o num : Nat) (hnum : num ≤ 18446744073709551615) (va : Value) (hs : SliceOf wr .i64 va []) {r : Int} (hr : r = if o = 1 then (match fV num with | some (.int .i64 s) => s | _ => t) else t) (hfV : ∀ v, fV num = some v → ∃ s, v = .int .i64 s) :
    Calls Try.prog 62 #[.pointer (some ⟨pb, 0, none⟩), .int .i64 t, .agg #[.int .u8 o, .int .u64 num, va]] wr fun e w' => e = .returned (.int .i64 r) ∧ Lab w0 w' (replThings pb gb mB mV fB fV cB cV ++ ts) := by
  obtain ⟨a, m, c, rfl, hm, -⟩ := hs.parts
  obtain rfl : m = 0 := hm.symm
  obtain ⟨q, hq⟩ : ∃ q, wr.heap.size = q := ⟨_, rfl⟩
  have hl1 := h.alloc #[.int .u8 o, .int .u64 num, .slice a 0 c] 106
  rw [hq] at hl1
  have HL1 := Lib.hid hl1; have HR := Lib.hid hr; have HF := Lib.hid hfV
  clear h hl1 hs hm hr hfV
  go_enter Try.func62, Try.ntmps62
  go_upto_region 1 with fail
  clear hq
  refine wp_abs (fun w1 => Lab w0 w1 (Thing.box q 106 #[.int .u8 o, .int .u64 num, .slice a 0 c] :: (replThings pb gb mB mV fB fV cB cV ++ ts))) HL1.out ?_
  rintro w1 hl
  clear HL1
  obtain ⟨d0, d1, d2⟩ := cells3 hl.box1
  obtain ⟨p0, p1, p2⟩ := cells3 hl.box2
  have hmV : MapF Try.prog 22 .u64 w1 mV fV cV := hl.fourth
  by_cases ho : o = 1
  · have q0 : ((o : Int) == 1) = true := by rw [beq_iff_eq]; omega
    have hr := HR.out
    rw [if_pos ho] at hr
    cases hv : fV num with
    | none =>
      have hlook := hmV.miss (T := 130) (E := 3) Try.underlying22 Try.underlying130 (zeroInt _) (wf_u64 (k := (num : Int)) (by omega) (by omega)) hv true
      have hlook' := fun n => (hmV.block (w' := w1.drewN n) rfl).miss (T := 130) (E := 3) Try.underlying22 Try.underlying130 (zeroInt _) (wf_u64 (k := (num : Int)) (by omega) (by omega)) hv true
      rw [hv] at hr
      subst hr
      have HL := Lib.hid hl
      clear hl hmV hv ho HR HF
      go_wp2
      go_quiet (fail)
      go_wp2
      go_ret
      exact ⟨rfl, (HL.out.drop).drewN _⟩
    | some v =>
      obtain ⟨s, rfl⟩ := HF.out v hv
      have hlook := hmV.hit (T := 130) (E := 3) Try.underlying22 Try.underlying130 (wf_u64 (k := (num : Int)) (by omega) (by omega)) hv true
      have hlook' := fun n => (hmV.block (w' := w1.drewN n) rfl).hit (T := 130) (E := 3) Try.underlying22 Try.underlying130 (wf_u64 (k := (num : Int)) (by omega) (by omega)) hv true
      rw [hv] at hr
      simp only at hr
      subst hr
      have HL := Lib.hid hl
      clear hl hmV hv ho HR HF
      go_wp2
      go_quiet (fail)
      go_wp2
      go_ret
      exact ⟨rfl, (HL.out.drop).drewN _⟩
  · have q0 : ((o : Int) == 1) = false := by rw [beq_eq_false_iff_ne]; omega
    have hr := HR.out
    rw [if_neg ho] at hr
    subst hr
    have HL := Lib.hid hl
    clear hl hmV ho HR HF p0 p1 p2
    go_wp2
    go_ret
    exact ⟨rfl, HL.out.drop⟩
end
end Go.Proofs.Ytcpgiadhmmmafaa
