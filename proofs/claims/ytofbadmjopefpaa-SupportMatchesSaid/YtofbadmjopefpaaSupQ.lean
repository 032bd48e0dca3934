/- Lists of lists of integers, as an argument, each no longer than what is read. -/
import Derived.Test.YtofbadmjopefpaaSupO
import Derived.Test.YtofbadmjopefpaaSupN
import Derived.SizedLaws
namespace Go.Proofs.Ytofbadmjopefpaa
open Go.RowKit Go.Maps
set_option maxHeartbeats 6400000

theorem weightsAll_mem {H : Type} {P : Program} {e : TypeId} : ∀ {ds : List (DataW H)} {d : DataW H}, d ∈ ds → ∀ n ∈ d.weights P e, n ∈ DataW.weightsAll P e ds
  | d0 :: ds, d, hd, n, hn => by
    simp only [DataW.weightsAll, List.mem_append]
    rcases List.mem_cons.1 hd with rfl | hd
    · exact .inl hn
    · exact .inr (weightsAll_mem hd n hn)
  | [], _, hd, _, _ => by cases hd
/-- Lists of lists of integers. -/
def ListsOf (w : World) (v : Value) (lss : List (List Int)) : Prop :=
  ∃ a n cap, v = .slice a n cap ∧ lss.length = n ∧ ∀ i, i < n → ∃ b off xs va, a = some ⟨b, off, none⟩ ∧ lss[i]? = some xs ∧ w.cell? ⟨b, off + i, none⟩ = some va ∧ SliceOf w .i64 va xs ∧ xs.length ≤ 17592186043904
set_option maxRecDepth 100000 in
theorem lists_of_trod {H : Type} {enc : TypeId × Value → H} {w : World} {base : Nat} {v : Value} {d : DataW H} {p : List MemPlace}
    (h : DataW.Trod enc Try.prog w 0 (fun _ => true) true 35 v d p) (o : Value.okWide Try.prog w .any base 35 v) (hz : ∀ n ∈ d.weights Try.prog 35, n ≤ reachBytes) :
    ∃ lss, ListsOf w v lss ∧ lss.length ≤ 9223372036854775807 := by
  have hc1 : Try.prog.cellsOf 26 = 1 := by kernel_rfl
  have hc2 : Try.prog.cellsOf 3 = 1 := by kernel_rfl
  have hb : Try.prog.bytesOf 3 = 8 := by kernel_rfl
  obtain ⟨a, n, cap, rfl⟩ := Go.WideShapes.okWide_slice Try.underlying35 o
  obtain ⟨fuel, hf⟩ := h
  rcases DataW.trod_slice Try.underlying35 hf with ⟨hcs, _⟩ | ⟨ad, len, cp, elems, rest, fu, _, hcs, hx, _, hl, hm, hlen, hel, _⟩
  · simp [Value.cells] at hcs
    obtain ⟨rfl, rfl, rfl⟩ := hcs
    exact ⟨[], ⟨_, _, _, rfl, rfl, fun i hi => by omega⟩, by rw [List.length_nil]; omega⟩
  · simp [Value.cells] at hcs
    obtain ⟨rfl, rfl, rfl⟩ := hcs
    simp only [Prod.mk.injEq] at hx
    obtain ⟨rfl, -⟩ := hx
    have hzz : ∀ y ∈ elems, ∀ n ∈ y.1.weights Try.prog 26, n ≤ reachBytes := fun y hy n hn => by
      refine hz n ?_
      simp only [DataW.weights, Try.underlying35, List.mem_cons, List.mem_append]
      exact .inr (.inl (weightsAll_mem (List.mem_map.2 ⟨y, hy, rfl⟩) n hn))
    have one : ∀ i, i < n → ∃ va xs, w.cell? (ad.add i) = some va ∧ SliceOf w .i64 va xs ∧ xs.length ≤ 17592186043904 := fun i hi => by
      have he := hel i hi
      obtain ⟨y, hy⟩ : ∃ y, elems[i]? = some y := ⟨_, List.getElem?_eq_getElem (by omega)⟩
      rw [hc1, Nat.mul_one, hy] at he
      obtain ⟨cs, hc, ht⟩ := Option.bind_eq_some_iff.1 he
      obtain ⟨hcl, _, hat⟩ := World.cells?_some hc
      obtain ⟨va, rfl⟩ : ∃ va, cs = [va] := by
        match cs, hcl with
        | [va], _ => exact ⟨va, rfl⟩
      have t0 := hat 0 (by decide)
      have e0 : (ad.add i).add 0 = ad.add i := by simp [Addr.add]
      rw [e0] at t0
      obtain ⟨xs, hs, -, -⟩ := ints_of_cell Try.underlying26 Try.underlying3 hc2 ht
      refine ⟨va, xs, t0, hs, ?_⟩
      obtain ⟨a1, n1, c1, e1, hl1, -⟩ := hs.parts
      rcases DataW.trod_slice Try.underlying26 ht with ⟨hcs, _⟩ | ⟨ad2, len2, cp2, elems2, rest2, fu2, _, hcs, hx2, _, _, _, hlen2, _, _⟩
      · simp only [List.cons.injEq, and_true] at hcs
        rw [hcs] at e1
        simp only [Value.slice.injEq] at e1
        omega
      · simp only [List.cons.injEq, and_true] at hcs
        rw [hcs] at e1
        simp only [Value.slice.injEq] at e1
        have hw := hzz y (List.mem_of_getElem? hy) ((elems2.length + rest2.length) * 8) (by
          rw [hx2]
          simp only [DataW.weights, Try.underlying26, List.mem_cons, List.length_map, hb]
          first | exact .inl rfl | (left; rfl) | simp)
        unfold reachBytes at hw
        omega
    have hspot : 0 < n → ad.spot = none := by
      intro h0
      obtain ⟨va, xs, t0, -, -⟩ := one 0 h0
      simpa [Addr.add] using World.cell?_spot t0
    have each : ∀ i, i < n → ∃ xs, ∃ b off va, (ad : Addr) = ⟨b, off, none⟩ ∧ w.cell? ⟨b, off + i, none⟩ = some va ∧ SliceOf w .i64 va xs ∧ xs.length ≤ 17592186043904 := by
      intro i hi
      obtain ⟨va, xs, t0, hs, hn⟩ := one i hi
      have hsp := hspot (by omega)
      obtain ⟨b, off, spot⟩ := ad
      simp only at hsp
      subst hsp
      rw [Go.WideShapes.add_plain] at t0
      exact ⟨xs, b, off, va, rfl, t0, hs, hn⟩
    obtain ⟨ss, hq, hp⟩ := list_of_each n each
    refine ⟨ss, ⟨_, _, _, rfl, hq, fun i hi => ?_⟩, by rw [hq]; unfold maxLen at hm; omega⟩
    obtain ⟨x, hx, b, off, va, rfl, hr⟩ := hp i hi
    exact ⟨b, off, x, va, rfl, hx, hr⟩
end Go.Proofs.Ytofbadmjopefpaa
