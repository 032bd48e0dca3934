/- Law 14: terms of a graph, by rests. -/
import Derived.Test.YtofbadmjopefpaaSupC
namespace Go.Proofs.Ytofbadmjopefpaa
open Go.RowKit Go.Maps
set_option maxHeartbeats 3200000

section
variable {P : Program}
/-- One element is appended to an own slice, at a step of a region that draws its order. -/
theorem step_append1 {ops : Array Oper} {o : Oper} {a : Act} {K : Act → World → Prop} {Q : Exit → Act → World → Prop} {E0 : Prop} (T E : Nat) (k : IntKind) (wr : World) (v : Value) (xs : List Int) (q : Int) (bytes : Nat)
    (hown : OwnInts wr 0 E k v xs) (hgd : o.guard = none) (s x : Operand) (ho : o.op = .call { callee := .builtin .append, args := #[s, x], argTypes := #[T, T] })
    (ht : P.underlying T = some (.slice E)) (hi : (P.info? E).map (fun i => (i.zero, i.size, i.bytes)) = some (some (.int k 0), 1, bytes)) (hbt : bytes ≤ 1000)
    (hs : a.eval s = v) (hx : a.eval x = .slice (some ⟨wr.heap.size, 0, none⟩) 1 1) (hn : xs.length ≤ 999999999)
    (h : ∀ a' c' w', OwnInts w' 0 E k (.slice a' (xs.length + 1) c') (xs ++ [q]) → Touch v.ownBlock.toList wr w' → (∀ b, (Value.slice a' (xs.length + 1) c').ownBlock = some b → v.ownBlock = some b ∨ wr.heap.size ≤ b) →
      K (a.put o.dst (.slice a' (xs.length + 1) c')) w') :
    if Region.wanted o (yielded ops a.tmps) = true then Oper.wp P o a (wr.alloc (.cells #[.int k q] E)) K Q else E0 := by
  have hw : Region.wanted o (yielded ops a.tmps) = true := by simp [Region.wanted, hgd]
  rw [if_pos hw]
  have hsrc := srcOf_new wr (.int k q) E
  have hown' : (wr.alloc (.cells #[.int k q] E)).ownsRow 0 E 1 v xs.length (xs.map (Value.int k)) := hown.alloc _
  have h1 : ∀ u ∈ [Value.int k q], u.oneCell' = true := by simp [Value.oneCell']
  obtain ⟨v', w', hr, h2, h3⟩ := run_append_src (P := P) (wr.alloc (.cells #[.int k q] E)) 0 T o.type E 1 bytes (.int k 0) ht hi rfl (by decide) hbt v _ xs.length 1 _ [.int k q] hown' hsrc h1 (by omega) (Nat.zero_le _)
  have blk := append_block (P := P) (T := T) (ty := o.type) (bytes := bytes) (z := .int k 0) ht hi hbt hown' hsrc h1 (by decide) (by omega) hr
  obtain ⟨a', c', rfl⟩ : ∃ a' c', v' = .slice a' (xs.length + 1) c' := by
    rcases h2.2 with ⟨_, h0⟩ | ⟨g, cap, cur, rfl, _⟩
    · omega
    · exact ⟨_, _, rfl⟩
  unfold Oper.wp execOp
  simp only [ho, resolve, invoke, builtin, Sem.run_bind, Sem.run_pure, Result.andThen_ok, List.map_toArray, List.map_cons, List.map_nil, hs, hx, hr]
  refine h a' c' w' ?_ ?_ ?_
  · unfold OwnInts
    rw [List.length_append, List.map_append]
    exact h2
  · refine ⟨h3.os, h3.tape, h3.output, by have := h3.size; simp at this; omega, fun b hb hn => ?_⟩
    rw [h3.block b (by simp; omega) (fun e => hn (by simp [← e])), heap_alloc_old _ _ hb]
  · intro b hb
    exact (blk b hb).imp id (fun h => by simp at h; omega)
end
/-- The terms that some returns. -/
def someL (L : List PNode) (xs : List Int) : List Int := if L.length = 0 then [] else (xs.take 20).map fun x => x % (L.length : Int)
theorem someL_in (L : List PNode) (xs : List Int) : InL L (someL L xs) := by
  unfold someL
  split
  · intro t ht; cases ht
  · intro t ht
    obtain ⟨x, -, rfl⟩ := List.mem_map.1 ht
    exact ⟨Int.emod_nonneg _ (by omega), Int.emod_lt_of_pos _ (by omega)⟩
theorem someL_len (L : List PNode) (xs : List Int) : (someL L xs).length ≤ 20 := by
  unfold someL
  split
  · simp
  · rw [List.length_map, List.length_take]; omega
section
variable {w0 wr w' : World} {ts : List Thing} {F I : List Nat} {gb W room : Nat} {L : List PNode}
set_option maxRecDepth 100000 in
theorem Lab.some14 (h : Lab w0 wr (Thing.graph F I gb W room L :: ts)) (v2 : Value) (rs : List Int) (hv : SliceOf w0 .i64 v2 rs) (hn : rs.length ≤ 9223372036854775807) :
    Calls Try.prog 22 #[.pointer (some ⟨gb, 0, none⟩), v2] wr fun e w' => ∃ a c, e = .returned (.slice a (someL L rs).length c) ∧ Lab w0 w' (Thing.ints (.slice a (someL L rs).length c) (someL L rs) :: Thing.graph F I gb W room L :: ts) := by
  have hll : L.length ≤ 1048576 := by have := h.gr.len; have := h.gr.r2; omega
  obtain ⟨a2, n2, cap2, rfl, hl2, hc2⟩ := hv.parts
  rw [hl2] at hn
  have HC2 := Lib.hid hv; have HL2 := Lib.hid hl2; have HL := Lib.hid h.nil_ints
  clear h hv hc2 hl2
  go_enter Try.func22, Try.ntmps22
  go_wp2
  go_loopw [5, 6] (fun v i wx => ∃ k : Nat, k ≤ n2 ∧ k ≤ 20 ∧ (0 < k → 0 < L.length) ∧ i = .int .i64 k ∧ ∃ a c us, v = .slice a k c ∧ us = (rs.take k).map (fun x => x % (L.length : Int)) ∧ us.length = k ∧ Lab w0 wx (Thing.ints (.slice a k c) us :: Thing.graph F I gb W room L :: ts)) (fun _ i _ => n2 - (intOf i).toNat)
  case atStart => exact ⟨0, by omega, by omega, by omega, rfl, none, 0, [], rfl, by simp, rfl, HL.out⟩
  case round =>
    clear HL
    obtain ⟨k, hk, hk2, hk3, rfl, ao, co, us, rfl, hus, hxl, hl⟩ := hrel
    have HUS := Lib.hid hus
    clear hus
    by_cases hlt : k < n2
    · have hlt' : (k : Int) < (n2 : Int) := by omega
      by_cases hlt2 : k < 20
      · by_cases hlen0 : 0 < L.length
        · obtain ⟨b, off, t, rfl, hc, ht⟩ := HC2.out.parts' hlt
          have hc1 := cell_later hl.below hc
          have hld := hl.later (Below.refl _ _).drew
          have hg := hld.second
          have hown : OwnInts wr.drew 0 3 .i64 (.slice ao k co) us := hld.ints
          have hlx : us.length ≤ 999999999 := by omega
          have hlen0' : (0 : Int) < (L.length : Int) := by omega
          have HT := Lib.hid ht; have HC1 := Lib.hid hc; have HLd := Lib.hid hld; have HG := Lib.hid hg; have HGR := Lib.hid hl.swap.gr
          clear ht hc hl hld hg
          go_wp2_with (go_at_call 25; refine (len_any HGR.out).mono ?_; rintro e w4 ⟨rfl, rfl⟩)
          go_region_held3 (fun w' => w'.cell? ⟨b, off + k, none⟩ = some (.int .i64 t)) (first | exact hc1 | assumption | go_keep)
            ((first | (go_at_call 25; refine (len_any HG.out).mono ?_; rintro e w4 ⟨rfl, rfl⟩) | (go_at_call 27; refine (mod_any t (L.length : Int) (by omega) (by omega) _).mono ?_; rintro e w5 ⟨rfl, rfl⟩) | (refine step_append1 (P := Try.prog) 26 3 .i64 wr.drew (.slice ao k co) us (t % (L.length : Int)) 8 hown (by rfl) _ _ (by rfl) Try.underlying26 Try.infoI64 (by decide) (by rfl) (by rfl) hlx ?_; intro a5 c5 w5 hown5 ht5 hb5; have hl5 := HLd.out.grown_ints hown5 ht5 hb5; have s5 := cell_later hl5.below HC1.out)))
          rw [hxl] at hl5
          have HL5 := Lib.hid hl5
          clear hl5 hown5 ht5 hb5 s5 hown hc1
          go_wp2
          go_roundw
          case rel =>
            refine ⟨k + 1, by omega, by omega, by omega, by go_num, a5, c5, us ++ [t % (L.length : Int)], rfl, ?_, by rw [List.length_append, hxl]; rfl, HL5.out⟩
            rw [List.take_add_one, HT.out, HUS.out, List.map_append]; rfl
          case measure => simp [intOf]; omega
        · have HK0 := Lib.hid (show k = 0 by omega)
          have hlen0' : ¬ (0 : Int) < (L.length : Int) := by omega
          have HGR := Lib.hid hl.swap.gr; have HX := Lib.hid hl
          clear hl
          go_wp2_with (go_at_call 25; refine (len_any HGR.out).mono ?_; rintro e w4 ⟨rfl, rfl⟩)
          go_ret
          have hs : us = someL L rs := by
            unfold someL
            rw [if_pos (by omega)]
            exact List.length_eq_zero_iff.1 (by have := HK0.out; omega)
          rw [← hs, hxl]
          exact ⟨ao, co, rfl, HX.out⟩
      · obtain rfl : k = 20 := by omega
        have HX := Lib.hid hl
        clear hl
        go_wp2
        go_ret
        have hs : us = someL L rs := by
          unfold someL
          rw [if_neg (by have := hk3 (by omega); omega)]
          exact HUS.out
        rw [← hs, hxl]
        exact ⟨ao, co, rfl, HX.out⟩
    · have hlt' : ¬ (k : Int) < (n2 : Int) := by omega
      obtain rfl : k = n2 := by omega
      have HX := Lib.hid hl
      clear hl
      go_wp2
      go_ret
      have hs : us = someL L rs := by
        unfold someL
        rw [HUS.out, List.take_of_length_le (l := rs) (by rw [HL2.out]; exact Nat.le_refl _), List.take_of_length_le (l := rs) (by rw [HL2.out]; omega)]
        split
        · have hz : rs.length = 0 := by
            have h1 := HL2.out
            rcases Nat.eq_zero_or_pos k with e | e
            · omega
            · have := hk3 e; omega
          rw [List.length_eq_zero_iff.1 hz]
          rfl
        · rfl
      rw [← hs, hxl]
      exact ⟨ao, co, rfl, HX.out⟩
end
end Go.Proofs.Ytofbadmjopefpaa
