/- A list of what is asked for, as an argument. -/
import Derived.Test.YteofgmjejocleaaSep
import Derived.Deep.Slices
import Derived.Deep.Fields
import Derived.ChangeSame
import Derived.OpenShut
namespace Go.Proofs.Yteofgmjejocleaa
open Go.RowKit Go.Maps
set_option maxHeartbeats 800000

theorem ints_of_cell {H : Type} {enc : TypeId × Value → H} {P : Program} {w : World} {base t e fuel : Nat} {k : IntKind} {va : Value} {held : Bool} {x : DataW H × List MemPlace} (ht : P.underlying t = some (.slice e)) (he : P.underlying e = some (.int k)) (hc : P.cellsOf e = 1)
    (h : DataW.trod enc P w base (fun _ => true) held fuel t [va] = some x) :
    ∃ xs, SliceOf w k va xs ∧ (∀ y ∈ xs, (Lit.int k y).wf = true) ∧ xs.length ≤ 9223372036854775807 := by
  have hr : ∃ (a : Option Addr) (n cap : Nat) (zs : List Int), va = .slice a n cap ∧ ((a = none ∧ n = 0 ∧ cap = 0 ∧ zs = []) ∨ ∃ x, a = some x ∧ n ≤ cap ∧ cap ≤ maxLen ∧ zs.length = cap ∧ (∀ i, i < zs.length → w.cell? (x.add i) = some (.int k (zs.getD i 0))) ∧ ∀ n ∈ zs, (Lit.int k n).wf = true) := by
    rcases Go.ChangeShapes.open_ints ht he hc h with ⟨hcs, _⟩ | ⟨x, l, c, zs, hcs, _, hl, hm, hz, _, hcell, hwz⟩
    · simp at hcs
      exact ⟨none, 0, 0, [], hcs, .inl ⟨rfl, rfl, rfl, rfl⟩⟩
    · simp at hcs
      exact ⟨some x, l, c, zs, hcs, .inr ⟨_, rfl, hl, hm, by simpa using hz, hcell, hwz⟩⟩
  obtain ⟨a, n, cap, zs, rfl, hr⟩ := hr
  obtain ⟨xs, h1, h2, h3, h4⟩ := row_slice hr
  exact ⟨xs, h1, h2, by omega⟩
theorem list5 (cs : List Value) (h : cs.length = 5) : ∃ c0 c1 c2 c3 c4, cs = [c0, c1, c2, c3, c4] := by
  match cs, h with
  | [c0, c1, c2, c3, c4], _ => exact ⟨_, _, _, _, _, rfl⟩
/-- The cells of one that is asked for. -/
theorem ask_of_cells {H : Type} {enc : TypeId × Value → H} {w : World} {fuel base : Nat} {held : Bool} {cs : List Value} {x : DataW H × List MemPlace}
    (h : DataW.trod enc Try.prog w base (fun _ => true) held fuel 53 cs = some x) :
    ∃ (a : PAsk) (va : Value), a.Ok ∧ cs = [.int .u8 a.1, .int .u8 a.2.1, .int .u64 a.2.2.1, .int .i64 a.2.2.2.1, va] ∧ SliceOf w .i64 va a.2.2.2.2 := by
  obtain ⟨ys, n, _, _, hl, hyl, hf⟩ := DataW.trod_struct Try.underlying53 h
  have h5 : Try.prog.cellsOf 53 = 5 := by kernel_rfl
  have hl5 : cs.length = 5 := hl.trans h5
  obtain ⟨c0, c1, c2, c3, c4, rfl⟩ := list5 cs hl5
  obtain ⟨y0, e0⟩ : ∃ y, ys[0]? = some y := ⟨_, List.getElem?_eq_getElem (by rw [hyl]; decide)⟩
  obtain ⟨y1, e1⟩ : ∃ y, ys[1]? = some y := ⟨_, List.getElem?_eq_getElem (by rw [hyl]; decide)⟩
  obtain ⟨y2, e2⟩ : ∃ y, ys[2]? = some y := ⟨_, List.getElem?_eq_getElem (by rw [hyl]; decide)⟩
  obtain ⟨y3, e3⟩ : ∃ y, ys[3]? = some y := ⟨_, List.getElem?_eq_getElem (by rw [hyl]; decide)⟩
  obtain ⟨y4, e4⟩ : ∃ y, ys[4]? = some y := ⟨_, List.getElem?_eq_getElem (by rw [hyl]; decide)⟩
  have q0 : Try.prog.cellsOf 5 = 1 := by kernel_rfl
  have q1 : Try.prog.cellsOf 25 = 1 := by kernel_rfl
  have q2 : Try.prog.cellsOf 3 = 1 := by kernel_rfl
  have q3 : Try.prog.cellsOf 32 = 1 := by kernel_rfl
  have g0 : DataW.trod enc Try.prog w base (fun _ => true) held n 5 (([c0, c1, c2, c3, c4].drop 0).take (Try.prog.cellsOf 5)) = ys[0]? := hf 0 _ rfl
  rw [q0, e0] at g0
  replace g0 : DataW.trod enc Try.prog w base (fun _ => true) held n 5 [c0] = some y0 := g0
  have g1 : DataW.trod enc Try.prog w base (fun _ => true) held n 5 (([c0, c1, c2, c3, c4].drop 1).take (Try.prog.cellsOf 5)) = ys[1]? := hf 1 _ rfl
  rw [q0, e1] at g1
  replace g1 : DataW.trod enc Try.prog w base (fun _ => true) held n 5 [c1] = some y1 := g1
  have g2 : DataW.trod enc Try.prog w base (fun _ => true) held n 25 (([c0, c1, c2, c3, c4].drop 2).take (Try.prog.cellsOf 25)) = ys[2]? := hf 2 _ rfl
  rw [q1, e2] at g2
  replace g2 : DataW.trod enc Try.prog w base (fun _ => true) held n 25 [c2] = some y2 := g2
  have g3 : DataW.trod enc Try.prog w base (fun _ => true) held n 3 (([c0, c1, c2, c3, c4].drop 3).take (Try.prog.cellsOf 3)) = ys[3]? := hf 3 _ rfl
  rw [q2, e3] at g3
  replace g3 : DataW.trod enc Try.prog w base (fun _ => true) held n 3 [c3] = some y3 := g3
  have g4 : DataW.trod enc Try.prog w base (fun _ => true) held n 32 (([c0, c1, c2, c3, c4].drop 4).take (Try.prog.cellsOf 32)) = ys[4]? := hf 4 _ rfl
  rw [q3, e4] at g4
  replace g4 : DataW.trod enc Try.prog w base (fun _ => true) held n 32 [c4] = some y4 := g4
  obtain ⟨n0, h0, _, w0⟩ := DataW.trod_int Try.underlying5 g0
  obtain ⟨n1, h1, _, w1⟩ := DataW.trod_int Try.underlying5 g1
  obtain ⟨n2, h2, _, w2⟩ := DataW.trod_int Try.underlying25 g2
  obtain ⟨n3, h3, _, w3⟩ := DataW.trod_int Try.underlying3 g3
  obtain ⟨xs, hs, hw, hxl⟩ := ints_of_cell Try.underlying32 Try.underlying3 q2 g4
  have b0 := Go.bounds_u8 w0; have b1 := Go.bounds_u8 w1; have b2 := Go.bounds_u64 w2; have b3 := Go.bounds_i64 w3
  obtain ⟨m0, rfl⟩ := Int.eq_ofNat_of_zero_le b0.1
  obtain ⟨m1, rfl⟩ := Int.eq_ofNat_of_zero_le b1.1
  obtain ⟨m2, rfl⟩ := Int.eq_ofNat_of_zero_le b2.1
  simp only [List.cons.injEq, and_true] at h0 h1 h2 h3
  subst h0; subst h1; subst h2; subst h3
  exact ⟨(m0, m1, m2, n3, xs), c4, ⟨by show m0 ≤ 255; omega, by show m1 ≤ 255; omega, by show m2 < 18446744073709551616; omega, b3, fun x hx => Go.bounds_i64 (hw x hx), hxl⟩, rfl, hs⟩
/-- A list of what is asked for. -/
def AsksOf (w : World) (v : Value) (qs : List PAsk) : Prop :=
  ∃ a n cap, v = .slice a n cap ∧ qs.length = n ∧ ∀ i, i < n → ∃ b off x va, a = some ⟨b, off, none⟩ ∧ qs[i]? = some x ∧ x.Ok ∧ SliceOf w .i64 va x.2.2.2.2 ∧
    w.cell? ⟨b, off + (i * 5 + 0), none⟩ = some (.int .u8 x.1) ∧ w.cell? ⟨b, off + (i * 5 + 1), none⟩ = some (.int .u8 x.2.1) ∧ w.cell? ⟨b, off + (i * 5 + 2), none⟩ = some (.int .u64 x.2.2.1) ∧
    w.cell? ⟨b, off + (i * 5 + 3), none⟩ = some (.int .i64 x.2.2.2.1) ∧ w.cell? ⟨b, off + (i * 5 + 4), none⟩ = some va
theorem list_of_each {α : Type} {p : Nat → α → Prop} : ∀ n, (∀ i, i < n → ∃ x, p i x) → ∃ l : List α, l.length = n ∧ ∀ i, i < n → ∃ x, l[i]? = some x ∧ p i x
  | 0, _ => ⟨[], rfl, fun i hi => by omega⟩
  | n + 1, h => by
    obtain ⟨l, hl, hp⟩ := list_of_each n (fun i hi => h i (by omega))
    obtain ⟨x, hx⟩ := h n (by omega)
    refine ⟨l ++ [x], by simp [hl], fun i hi => ?_⟩
    rcases Nat.lt_or_ge i n with h1 | h1
    · obtain ⟨y, hy, hpy⟩ := hp i h1
      exact ⟨y, by rw [List.getElem?_append_left (by omega)]; exact hy, hpy⟩
    · obtain rfl : i = n := by omega
      exact ⟨x, by rw [List.getElem?_append_right (by omega)]; simp [hl], hx⟩
theorem AsksOf.nil (w : World) : AsksOf w (.slice none 0 0) [] := ⟨_, _, _, rfl, rfl, fun i hi => by omega⟩
theorem slice_of_trod {H : Type} {enc : TypeId × Value → H} {P : Program} {w : World} {base t e : Nat} {v : Value} {d : DataW H} {p : List MemPlace} (ht : P.underlying t = some (.slice e))
    (h : DataW.Trod enc P w 0 (fun _ => true) true t v d p) (o : Value.okWide P w .any base t v) :
    v = .slice none 0 0 ∨ ∃ (ad : Addr) (n cap fu : Nat) (elems : List (DataW H × List MemPlace)), v = .slice (some ad) n cap ∧ n ≤ cap ∧ cap ≤ maxLen ∧ elems.length = n ∧
      ∀ i, i < n → (w.cells? 0 (ad.add (i * P.cellsOf e)) (P.cellsOf e)).bind (DataW.trod enc P w 0 (fun _ => true) true fu e) = elems[i]? := by
  obtain ⟨a, n, cap, rfl⟩ := Go.WideShapes.okWide_slice ht o
  obtain ⟨fuel, hf⟩ := h
  rcases DataW.trod_slice ht hf with ⟨hcs, _⟩ | ⟨ad, len, cp, elems, rest, fu, _, hcs, _, _, hl, hm, hlen, hel, _⟩
  · simp [Value.cells] at hcs
    obtain ⟨rfl, rfl, rfl⟩ := hcs
    exact .inl rfl
  · simp [Value.cells] at hcs
    obtain ⟨rfl, rfl, rfl⟩ := hcs
    exact .inr ⟨ad, n, cap, fu, elems, rfl, hl, hm, hlen, hel⟩
set_option maxRecDepth 100000 in
/-- What a law's frame tells of such a list. -/
theorem asks_of_trod {H : Type} {enc : TypeId × Value → H} {w : World} {base : Nat} {v : Value} {d : DataW H} {p : List MemPlace}
    (h : DataW.Trod enc Try.prog w 0 (fun _ => true) true 44 v d p) (o : Value.okWide Try.prog w .any base 44 v) :
    ∃ qs, AsksOf w v qs ∧ qs.length ≤ 9223372036854775807 := by
  have h5 : Try.prog.cellsOf 53 = 5 := by kernel_rfl
  rcases slice_of_trod Try.underlying44 h o with rfl | ⟨ad, n, cap, fu, elems, rfl, hl, hm, hlen, hel⟩
  · exact ⟨[], AsksOf.nil w, by rw [List.length_nil]; omega⟩
  · clear h o
    have hspot : 0 < n → ad.spot = none := by
      intro h0
      have he := hel 0 h0
      rw [h5, List.getElem?_eq_getElem (by omega)] at he
      obtain ⟨cs, hc, ht⟩ := Option.bind_eq_some_iff.1 he
      obtain ⟨x, va, hx, rfl, hs⟩ := ask_of_cells ht
      obtain ⟨_, _, hat⟩ := World.cells?_some hc
      have t0 := hat 0 (by decide)
      simpa [Addr.add] using World.cell?_spot t0
    have each : ∀ i, i < n → ∃ b off x va, (ad : Addr) = ⟨b, off, none⟩ ∧ (x : PAsk).Ok ∧ SliceOf w .i64 va x.2.2.2.2 ∧
        w.cell? ⟨b, off + (i * 5 + 0), none⟩ = some (.int .u8 x.1) ∧ w.cell? ⟨b, off + (i * 5 + 1), none⟩ = some (.int .u8 x.2.1) ∧ w.cell? ⟨b, off + (i * 5 + 2), none⟩ = some (.int .u64 x.2.2.1) ∧
        w.cell? ⟨b, off + (i * 5 + 3), none⟩ = some (.int .i64 x.2.2.2.1) ∧ w.cell? ⟨b, off + (i * 5 + 4), none⟩ = some va := by
      intro i hi
      have he := hel i hi
      rw [h5, List.getElem?_eq_getElem (by omega)] at he
      obtain ⟨cs, hc, ht⟩ := Option.bind_eq_some_iff.1 he
      obtain ⟨x, va, hx, rfl, hs⟩ := ask_of_cells ht
      obtain ⟨_, _, hat⟩ := World.cells?_some hc
      have t0 := hat 0 (by decide); have t1 := hat 1 (by decide); have t2 := hat 2 (by decide); have t3 := hat 3 (by decide); have t4 := hat 4 (by decide)
      have hsp := hspot (by omega)
      obtain ⟨b, off, spot⟩ := ad
      simp only at hsp
      subst hsp
      simp only [Go.WideShapes.add_plain, List.getElem?_cons_zero, List.getElem?_cons_succ, Nat.add_assoc] at t0 t1 t2 t3 t4
      exact ⟨b, off, x, va, rfl, hx, hs, t0, t1, t2, t3, t4⟩
    obtain ⟨qs, hq, hp⟩ := list_of_each (p := fun i x => ∃ b off va, (ad : Addr) = ⟨b, off, none⟩ ∧ (x : PAsk).Ok ∧ SliceOf w .i64 va x.2.2.2.2 ∧
        w.cell? ⟨b, off + (i * 5 + 0), none⟩ = some (.int .u8 x.1) ∧ w.cell? ⟨b, off + (i * 5 + 1), none⟩ = some (.int .u8 x.2.1) ∧ w.cell? ⟨b, off + (i * 5 + 2), none⟩ = some (.int .u64 x.2.2.1) ∧
        w.cell? ⟨b, off + (i * 5 + 3), none⟩ = some (.int .i64 x.2.2.2.1) ∧ w.cell? ⟨b, off + (i * 5 + 4), none⟩ = some va) n
      (fun i hi => by obtain ⟨b, off, x, va, r⟩ := each i hi; exact ⟨x, b, off, va, r⟩)
    refine ⟨qs, ⟨some ad, n, cap, rfl, hq, fun i hi => ?_⟩, by rw [hq]; unfold maxLen at hm; omega⟩
    obtain ⟨x, hx, b, off, va, hab, r⟩ := hp i hi
    exact ⟨b, off, x, va, by rw [hab], hx, r⟩
theorem AsksOf.below {w w' : World} {v : Value} {qs : List PAsk} (h : AsksOf w v qs) (hb : Below w.heap.size w w') : AsksOf w' v qs := by
  obtain ⟨a, n, cap, rfl, hl, hc⟩ := h
  refine ⟨a, n, cap, rfl, hl, fun i hi => ?_⟩
  obtain ⟨b, off, x, va, rfl, hx, hok, hs, c0, c1, c2, c3, c4⟩ := hc i hi
  exact ⟨b, off, x, va, rfl, hx, hok, hs.below hb, cell_later hb c0, cell_later hb c1, cell_later hb c2, cell_later hb c3, cell_later hb c4⟩
theorem AsksOf.take {w : World} {a : Option Addr} {n cap : Nat} {qs : List PAsk} (h : AsksOf w (.slice a n cap) qs) (m cap' : Nat) (hm : m ≤ n) : AsksOf w (.slice a m cap') (qs.take m) := by
  obtain ⟨a', n', c', e, hl, hc⟩ := h
  simp only [Value.slice.injEq] at e
  obtain ⟨rfl, rfl, rfl⟩ := e
  refine ⟨a, m, cap', rfl, by simp [hl, hm], fun i hi => ?_⟩
  obtain ⟨b, off, x, va, rfl, hx, r⟩ := hc i (by omega)
  exact ⟨b, off, x, va, rfl, by rw [List.getElem?_take, if_pos hi]; exact hx, r⟩
/-- One of a list, as the walk reads it. -/
theorem AsksOf.at {w : World} {a : Option Addr} {n cap : Nat} {qs : List PAsk} (h : AsksOf w (.slice a n cap) qs) {i : Nat} (hi : i < n) :
    ∃ b off x va, a = some ⟨b, off, none⟩ ∧ qs[i]? = some x ∧ x.Ok ∧ AskV w (.agg #[.int .u8 x.1, .int .u8 x.2.1, .int .u64 x.2.2.1, .int .i64 x.2.2.2.1, va]) x ∧
    w.cell? ⟨b, off + i * 5, none⟩ = some (.int .u8 x.1) ∧ w.cell? ⟨b, off + i * 5 + 1, none⟩ = some (.int .u8 x.2.1) ∧ w.cell? ⟨b, off + i * 5 + 2, none⟩ = some (.int .u64 x.2.2.1) ∧
    w.cell? ⟨b, off + i * 5 + 3, none⟩ = some (.int .i64 x.2.2.2.1) ∧ w.cell? ⟨b, off + i * 5 + 4, none⟩ = some va := by
  obtain ⟨a', n', c', e, hl, hc⟩ := h
  simp only [Value.slice.injEq] at e
  obtain ⟨rfl, rfl, rfl⟩ := e
  obtain ⟨b, off, x, va, rfl, hx, hok, hs, r⟩ := hc i hi
  simp only [Nat.add_zero, ← Nat.add_assoc] at r
  exact ⟨b, off, x, va, rfl, hx, hok, ⟨va, rfl, hs⟩, r⟩
theorem AsksOf.parts {w : World} {v : Value} {qs : List PAsk} (h : AsksOf w v qs) : ∃ a cap, v = .slice a qs.length cap := by
  obtain ⟨a, n, cap, rfl, hl, _⟩ := h
  exact ⟨a, cap, by rw [hl]⟩
end Go.Proofs.Yteofgmjejocleaa
