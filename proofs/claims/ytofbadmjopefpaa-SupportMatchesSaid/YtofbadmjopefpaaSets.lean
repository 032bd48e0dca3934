/- Sets: maps with integer keys that hold true. A loop over a map, among things. -/
import Derived.Test.YtofbadmjopefpaaEvalT
import Derived.Test.YtofbadmjopefpaaMapR
namespace Go.Proofs.Ytofbadmjopefpaa
open Go.RowKit Go.Maps
set_option maxHeartbeats 800000

/-- A set, as a map's function. -/
def setF (S : Int → Bool) : Int → Option Value := fun k => if S k = true then some (.bool true) else none
theorem setF_put {S : Int → Bool} {k : Int} : ∀ j, (if j = k then some (Value.bool true) else setF S j) = setF (fun j => if j = k then true else S j) j := by
  intro j
  unfold setF
  by_cases h : j = k
  · simp [h]
  · simp [h]
theorem setF_congr {S S' : Int → Bool} {k : Int} (h : S k = S' k) : setF S k = setF S' k := by unfold setF; simp only [h]
section
variable {w0 wr w' : World} {ts : List Thing} {K T E : TypeId} {kd : IntKind} {mb c : Nat} {S : Int → Bool}
/-- A set in memory: what a look-up answers. -/
theorem MapF.ask {w : World} (h : MapF Try.prog K kd w mb (setF S) c) (hK : Try.prog.underlying K = some (.int kd)) (hT : Try.prog.underlying T = some (.map K E)) (hz : (zeroValue E).run Try.prog w = .ok (.bool false) w) {k : Int} (hw : (Lit.int kd k).wf = true) :
    (Instr.lookup T (.map (some mb)) (.int kd k) false).run Try.prog w = .ok (.bool (S k)) w := by
  cases hs : S k with
  | true => exact h.hit hK hT hw (v := .bool true) (by unfold setF; rw [if_pos hs]) false
  | false => exact h.miss hK hT hz hw (by unfold setF; rw [if_neg (by rw [hs]; decide)]) false
/-- A set takes one in. -/
theorem Lab.sput (h : ∃ c, Lab w0 wr (Thing.mapf K kd mb (setF S) c :: ts)) (hK : Try.prog.underlying K = some (.int kd)) (hT : Try.prog.underlying T = some (.map K E)) {k : Int} (hw : (Lit.int kd k).wf = true) :
    (Instr.mapUpdate T (.map (some mb)) (.int kd k) (.bool true)).run Try.prog wr = .ok () (mapW Try.prog T mb (.int kd k) (.bool true) wr) ∧ ∃ c, Lab w0 (mapW Try.prog T mb (.int kd k) (.bool true) wr) (Thing.mapf K kd mb (setF fun j => if j = k then true else S j) c :: ts) := by
  obtain ⟨c, h⟩ := h
  obtain ⟨hr, hl⟩ := h.mput hK hT hw (.bool true)
  exact ⟨hr, _, hl.mapf_congr setF_put⟩
end
theorem zeroBool (w : World) : (zeroValue 4).run Try.prog w = .ok (.bool false) w := by kernel_rfl
theorem wf_i64 {k : Int} (h1 : -9223372036854775808 ≤ k) (h2 : k ≤ 9223372036854775807) : (Lit.int .i64 k).wf = true := by
  simp [Lit.wf, IntKind.min, IntKind.max, IntKind.signed, IntKind.bits]; omega
theorem wf_u64 {k : Int} (h1 : 0 ≤ k) (h2 : k ≤ 18446744073709551615) : (Lit.int .u64 k).wf = true := by
  simp [Lit.wf, IntKind.min, IntKind.max, IntKind.signed, IntKind.bits]; omega
/-- A set without elements. -/
theorem setF_empty {w : World} {K : TypeId} {kd : IntKind} {mb : Nat} {S : Int → Bool} (h : MapF Try.prog K kd w mb (setF S) 0) (k : Int) : S k = false := by
  cases hs : S k with
  | false => rfl
  | true =>
    obtain ⟨m, h1, h2, h3, h4⟩ := h
    have := h4 k (.bool true) (by unfold setF; rw [if_pos hs])
    rw [List.length_eq_zero_iff.1 h2] at this
    cases this
/-- A map over which a loop is under way: block mb, the loop's own block r. -/
def Thing.rng (mb r : Nat) (m d : List (Value × Value)) : Thing :=
  ⟨[mb, r], [], fun w => MapRng w mb r m d, fun _ _ h hk => (h.keep (hk mb (.inl (by simp))) (hk r (.inl (by simp)))).1⟩
section
variable {w0 wr w' : World} {ts : List Thing} {K : TypeId} {kd : IntKind} {mb r c : Nat} {f : Int → Option Value} {m d d' : List (Value × Value)}
theorem Lab.rng (h : Lab w0 wr (Thing.rng mb r m d :: ts)) : MapRng wr mb r m d := h.head
/-- The loop begins. -/
theorem Lab.rng_start (h : Lab w0 wr (Thing.mapf K kd mb f c :: ts)) (hr : MapRng w' mb wr.heap.size m []) (hb : Below wr.heap.size wr w') : Lab w0 w' (Thing.rng mb wr.heap.size m [] :: ts) := by
  refine h.turn (s' := Thing.rng mb wr.heap.size m []) (Touch.of_below hb _) hr (fun k hk => ?_) (fun k hk => by simp [Thing.rng] at hk) (fun k hk => ?_)
  · simp only [Thing.rng, List.mem_cons, List.not_mem_nil, or_false] at hk
    rcases hk with rfl | rfl
    · exact .inl (by simp [Thing.mapf])
    · exact .inr (Nat.le_refl _)
  · simp only [Thing.rng, List.mem_cons, List.not_mem_nil, or_false] at hk
    rcases hk with rfl | rfl
    · exact hr.lt.1
    · exact hr.lt.2
/-- One more has come. -/
theorem Lab.rng_next (h : Lab w0 wr (Thing.rng mb r m d :: ts)) (hr : MapRng w' mb r m d') (hb : But r wr w') : Lab w0 w' (Thing.rng mb r m d' :: ts) := by
  refine h.turn (s' := Thing.rng mb r m d') ⟨hb.os, hb.tape, hb.output, by rw [hb.size]; exact Nat.le_refl _, fun k _ hn => hb.block k (by simp [Thing.rng] at hn; exact hn.2)⟩ hr (fun k hk => .inl hk) (fun k hk => by simp [Thing.rng] at hk) (fun k hk => ?_)
  simp only [Thing.rng, List.mem_cons, List.not_mem_nil, or_false] at hk
  rcases hk with rfl | rfl
  · exact hr.lt.1
  · exact hr.lt.2
/-- What a loop over a map of integers' keys hands over. -/
theorem rng_key (h : ∀ p ∈ m, ∃ k v, p = (Value.int kd k, v) ∧ f k = some v) {k v : Value} (hm : ∃ l, (d ++ (k, v) :: l).Perm m) : ∃ j, k = .int kd j ∧ f j = some v := by
  obtain ⟨l, hl⟩ := hm
  obtain ⟨j, u, e, hj⟩ := h (k, v) (hl.mem_iff.1 (by simp))
  simp only [Prod.mk.injEq] at e
  exact ⟨j, e.1, by rw [e.2]; exact hj⟩
end
end Go.Proofs.Ytofbadmjopefpaa
