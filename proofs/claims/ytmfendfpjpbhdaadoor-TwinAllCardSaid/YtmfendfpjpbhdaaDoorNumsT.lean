/- Lists of lists of words, as an argument. -/
import Derived.Test.YtmfendfpjpbhdaaDoorAllD
namespace Go.Proofs.YtmfendfpjpbhdaaDoor
open Go.RowKit Go.Maps
set_option maxHeartbeats 6400000

set_option maxRecDepth 100000 in
theorem nums_of_trod {H : Type} {enc : TypeId × Value → H} {w : World} {base : Nat} {v : Value} {d : DataW H} {p : List MemPlace}
    (h : DataW.Trod enc Tryd.prog w 0 (fun _ => true) true 38 v d p) (o : Value.okWide Tryd.prog w .any base 38 v) :
    ∃ a n cap lss, v = .slice a n cap ∧ NumsOf w .u64 v lss := by
  have hc1 : Tryd.prog.cellsOf 36 = 1 := by kernel_rfl
  have hc2 : Tryd.prog.cellsOf 44 = 1 := by kernel_rfl
  obtain ⟨a, n, cap, rfl⟩ := Go.WideShapes.okWide_slice Tryd.underlying38 o
  obtain ⟨fuel, hf⟩ := h
  rcases DataW.trod_slice Tryd.underlying38 hf with ⟨hcs, _⟩ | ⟨ad, len, cp, elems, rest, fu, _, hcs, hx, _, hl, hm, hlen, hel, _⟩
  · simp [Value.cells] at hcs
    obtain ⟨rfl, rfl, rfl⟩ := hcs
    exact ⟨_, _, _, [], rfl, _, _, _, rfl, rfl, fun i hi => by omega⟩
  · simp [Value.cells] at hcs
    obtain ⟨rfl, rfl, rfl⟩ := hcs
    have one : ∀ i, i < n → ∃ va xs, w.cell? (ad.add i) = some va ∧ SliceOf w .u64 va xs := fun i hi => by
      have he := hel i hi
      obtain ⟨y, hy⟩ : ∃ y, elems[i]? = some y := ⟨_, List.getElem?_eq_getElem (by omega)⟩
      rw [hc1, Nat.mul_one, hy] at he
      obtain ⟨cs, hc, ht⟩ := Option.bind_eq_some_iff.1 he
      obtain ⟨hcl, _, hat⟩ := World.cells?_some hc
      obtain ⟨va, rfl⟩ : ∃ va, cs = [va] := by
        match cs, hcl with
        | [va], _ => exact ⟨va, rfl⟩
      have t0 := hat 0 (by decide)
      have e0 : (ad.add i).add 0 = ad.add i := by simp [Addr.add]
      rw [e0] at t0
      obtain ⟨xs, hs, -, -⟩ := ints_of_cell Tryd.underlying36 Tryd.underlying44 hc2 ht
      exact ⟨va, xs, t0, hs⟩
    have hspot : 0 < n → ad.spot = none := by
      intro h0
      obtain ⟨va, xs, t0, -⟩ := one 0 h0
      simpa [Addr.add] using World.cell?_spot t0
    have each : ∀ i, i < n → ∃ xs, ∃ b off va, (ad : Addr) = ⟨b, off, none⟩ ∧ w.cell? ⟨b, off + i, none⟩ = some va ∧ SliceOf w .u64 va xs := by
      intro i hi
      obtain ⟨va, xs, t0, hs⟩ := one i hi
      have hsp := hspot (by omega)
      obtain ⟨b, off, spot⟩ := ad
      simp only at hsp
      subst hsp
      rw [Go.WideShapes.add_plain] at t0
      exact ⟨xs, b, off, va, rfl, t0, hs⟩
    obtain ⟨ss, hq, hp⟩ := list_of_each n each
    refine ⟨_, _, _, ss, rfl, _, _, _, rfl, hq, fun i hi => ?_⟩
    obtain ⟨x, hx', b, off, va, e, hr⟩ := hp i hi
    exact ⟨b, off, x, va, by rw [e], hx', hr⟩
end Go.Proofs.YtmfendfpjpbhdaaDoor
