/- A list of pairs of integers, as an argument. -/
import Derived.Test.YtcpgiadhmmmafaaSep
namespace Go.Proofs.Ytcpgiadhmmmafaa
open Go.RowKit Go.Maps
set_option maxHeartbeats 800000

/-- A list of pairs of integers. -/
def PairsOf (w : World) (v : Value) (ps : List (Int × Int)) : Prop :=
  ∃ a n cap, v = .slice a n cap ∧ ps.length = n ∧ ∀ i, i < n → ∃ b off x, a = some ⟨b, off, none⟩ ∧ ps[i]? = some x ∧ w.cell? ⟨b, off + i * 2, none⟩ = some (.int .i64 x.1) ∧ w.cell? ⟨b, off + i * 2 + 1, none⟩ = some (.int .i64 x.2)
theorem PairsOf.nil (w : World) : PairsOf w (.slice none 0 0) [] := ⟨_, _, _, rfl, rfl, fun i hi => by omega⟩
theorem list2 (cs : List Value) (h : cs.length = 2) : ∃ c0 c1, cs = [c0, c1] := by
  match cs, h with
  | [c0, c1], _ => exact ⟨_, _, rfl⟩
set_option maxRecDepth 100000 in
theorem pair_of_cells {H : Type} {enc : TypeId × Value → H} {w : World} {fuel base : Nat} {held : Bool} {cs : List Value} {x : DataW H × List MemPlace}
    (h : DataW.trod enc Try.prog w base (fun _ => true) held fuel 49 cs = some x) : ∃ p q : Int, cs = [.int .i64 p, .int .i64 q] := by
  obtain ⟨ys, m, _, _, hl, hyl, hf⟩ := DataW.trod_array Try.underlying49 h
  have h2 : Try.prog.cellsOf 49 = 2 := by kernel_rfl
  have h1 : Try.prog.cellsOf 3 = 1 := by kernel_rfl
  obtain ⟨c0, c1, rfl⟩ := list2 cs (hl.trans h2)
  obtain ⟨y0, e0⟩ : ∃ y, ys[0]? = some y := ⟨_, List.getElem?_eq_getElem (by rw [hyl]; decide)⟩
  obtain ⟨y1, e1⟩ : ∃ y, ys[1]? = some y := ⟨_, List.getElem?_eq_getElem (by rw [hyl]; decide)⟩
  have g0 := hf 0 (by decide)
  rw [h1, e0] at g0
  replace g0 : DataW.trod enc Try.prog w base (fun _ => true) held m 3 [c0] = some y0 := g0
  have g1 := hf 1 (by decide)
  rw [h1, e1] at g1
  replace g1 : DataW.trod enc Try.prog w base (fun _ => true) held m 3 [c1] = some y1 := g1
  obtain ⟨n0, q0, _, _⟩ := DataW.trod_int Try.underlying3 g0
  obtain ⟨n1, q1, _, _⟩ := DataW.trod_int Try.underlying3 g1
  simp only [List.cons.injEq, and_true] at q0 q1
  subst q0; subst q1
  exact ⟨n0, n1, rfl⟩
set_option maxRecDepth 100000 in
theorem pairs_of_trod {H : Type} {enc : TypeId × Value → H} {w : World} {base : Nat} {v : Value} {d : DataW H} {p : List MemPlace}
    (h : DataW.Trod enc Try.prog w 0 (fun _ => true) true 45 v d p) (o : Value.okWide Try.prog w .any base 45 v) :
    ∃ ps, PairsOf w v ps ∧ ps.length ≤ 9223372036854775807 := by
  have h2 : Try.prog.cellsOf 49 = 2 := by kernel_rfl
  rcases slice_of_trod Try.underlying45 h o with rfl | ⟨ad, n, cap, fu, elems, rfl, hl, hm, hlen, hel⟩
  · exact ⟨[], PairsOf.nil w, by rw [List.length_nil]; omega⟩
  · clear h o
    have each : ∀ i, i < n → ∃ b off, ∃ x : Int × Int, (ad : Addr) = ⟨b, off, none⟩ ∧ w.cell? ⟨b, off + i * 2, none⟩ = some (.int .i64 x.1) ∧ w.cell? ⟨b, off + i * 2 + 1, none⟩ = some (.int .i64 x.2) := by
      have cells : ∀ i, i < n → ∃ x : Int × Int, w.cell? ((ad.add (i * 2)).add 0) = some (.int .i64 x.1) ∧ w.cell? ((ad.add (i * 2)).add 1) = some (.int .i64 x.2) := by
        intro i hi
        have he := hel i hi
        rw [h2, List.getElem?_eq_getElem (by omega)] at he
        obtain ⟨cs, hc, ht⟩ := Option.bind_eq_some_iff.1 he
        obtain ⟨x, y, rfl⟩ := pair_of_cells ht
        obtain ⟨_, _, hat⟩ := World.cells?_some hc
        exact ⟨(x, y), hat 0 (by decide), hat 1 (by decide)⟩
      intro i hi
      have hsp : ad.spot = none := by
        obtain ⟨x, t0, _⟩ := cells 0 (by omega)
        simpa [Addr.add] using World.cell?_spot t0
      obtain ⟨x, t0, t1⟩ := cells i hi
      obtain ⟨b, off, spot⟩ := ad
      simp only at hsp
      subst hsp
      simp only [Go.WideShapes.add_plain, Nat.add_zero] at t0 t1
      exact ⟨b, off, x, rfl, t0, t1⟩
    obtain ⟨ps, hq, hp⟩ := list_of_each (p := fun i (x : Int × Int) => ∃ b off, (ad : Addr) = ⟨b, off, none⟩ ∧ w.cell? ⟨b, off + i * 2, none⟩ = some (.int .i64 x.1) ∧ w.cell? ⟨b, off + i * 2 + 1, none⟩ = some (.int .i64 x.2)) n
      (fun i hi => by obtain ⟨b, off, x, r⟩ := each i hi; exact ⟨x, b, off, r⟩)
    refine ⟨ps, ⟨some ad, n, cap, rfl, hq, fun i hi => ?_⟩, by rw [hq]; unfold maxLen at hm; omega⟩
    obtain ⟨x, hx, b, off, hab, r⟩ := hp i hi
    exact ⟨b, off, x, by rw [hab], hx, r⟩
theorem PairsOf.below {w w' : World} {v : Value} {ps : List (Int × Int)} (h : PairsOf w v ps) (hb : Below w.heap.size w w') : PairsOf w' v ps := by
  obtain ⟨a, n, cap, rfl, hl, hc⟩ := h
  refine ⟨a, n, cap, rfl, hl, fun i hi => ?_⟩
  obtain ⟨b, off, x, rfl, hx, c0, c1⟩ := hc i hi
  exact ⟨b, off, x, rfl, hx, cell_later hb c0, cell_later hb c1⟩
end Go.Proofs.Ytcpgiadhmmmafaa
