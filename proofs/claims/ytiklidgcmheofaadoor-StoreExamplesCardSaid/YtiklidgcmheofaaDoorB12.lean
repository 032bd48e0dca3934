/- StQ, StB, StN, StD, StK: joined by wip/bundle.py. -/
import Derived.Test.YtiklidgcmheofaaDoorB1
import Derived.Test.YtiklidgcmheofaaDoorB2
import Derived.Test.YtiklidgcmheofaaDoorB3
import Derived.Test.YtiklidgcmheofaaDoorB4
import Derived.Test.YtiklidgcmheofaaDoorB5
import Derived.Test.YtiklidgcmheofaaDoorB6
import Derived.Test.YtiklidgcmheofaaDoorB7
import Derived.Test.YtiklidgcmheofaaDoorB8
import Derived.Test.YtiklidgcmheofaaDoorB9
import Derived.Test.YtiklidgcmheofaaDoorB10
import Derived.Test.YtiklidgcmheofaaDoorB11
import Derived.BigQuiet
namespace Go.Proofs.YtiklidgcmheofaaDoor
/-- What holds of a Put under way: the first i elements are done. -/
structure PutInv (W : Nat) (L : List PNode) (xs : List Int) (x t i : Nat) (L1 : List PNode) (ys : List Int) : Prop where
  ok : GOk W L1
  pre : L <+: L1
  len : ys.length = xs.length
  each : ∀ k, k < xs.length → ∃ u : Nat, ys[k]? = some (u : Int) ∧ u < L1.length ∧ ∀ vals, val W vals L1 u = if k < i ∧ val W vals L x = (k : Int) then val W vals L t else val W vals L (xs.getD k 0).toNat
  room : phi W L1 ≤ phi W L + 2 * i
section
variable {W room n x t i : Nat} {L L1 : List PNode} {xs ys : List Int}
theorem PutInv.start (hok : GOk W L) (hin : ∀ e ∈ xs, (0 : Int) ≤ e ∧ e < (L.length : Int)) : PutInv W L xs x t 0 L xs :=
  ⟨hok, List.prefix_refl _, rfl, fun k hk => by
    have h := hin (xs[k]) (List.getElem_mem hk)
    refine ⟨(xs[k]).toNat, by rw [List.getElem?_eq_getElem hk, Int.toNat_of_nonneg h.1], by omega, fun vals => ?_⟩
    rw [if_neg (by omega), List.getD_eq_getElem?_getD, List.getElem?_eq_getElem hk]; rfl, by omega⟩
theorem PutInv.skip (hx : x < L.length) (h : PutInv W L xs x t i L1 ys) {L2 : List PNode} {hh : Nat} (hg : Got W L1 L2 hh (fun vals => if val W vals L1 x = (i : Int) then 1 else 0)) (hp : phi W L2 ≤ phi W L1 + 1) (hz : numOf L2 (hh : Int) = some 0) : PutInv W L xs x t (i + 1) L2 ys := by
  refine ⟨hg.ok, h.pre.trans hg.pre, h.len, fun k hk => ?_, by have := h.room; omega⟩
  obtain ⟨u, h1, h2, h3⟩ := h.each k hk
  refine ⟨u, h1, Nat.lt_of_lt_of_le h2 hg.pre.length_le, fun vals => ?_⟩
  rw [val_prefix hg.pre h2, h3 vals]
  have h4 := hg.val vals
  rw [val_num hg.ok hz vals, val_prefix h.pre hx] at h4
  have hne : val W vals L x ≠ (i : Int) := fun e => by rw [if_pos e] at h4; cases h4
  by_cases hc : k < i ∧ val W vals L x = (k : Int)
  · rw [if_pos hc, if_pos ⟨by omega, hc.2⟩]
  · rw [if_neg hc, if_neg (fun h => ?_)]
    by_cases e : k = i
    · subst e; exact hne h.2
    · exact hc ⟨by omega, h.2⟩
theorem PutInv.put (hx : x < L.length) (ht : t < L.length) (h : PutInv W L xs x t i L1 ys) (hi : i < xs.length) {L2 : List PNode} {hh : Nat} (hg : Got W L1 L2 hh (fun vals => if val W vals L1 x = (i : Int) then 1 else 0)) (hp : phi W L2 ≤ phi W L1 + 1) (hr : phi W L2 < room) :
    ∃ (y : Nat) (L3 : List PNode) (u : Nat), ys[i]? = some (y : Int) ∧ simpR W room L2 21 [(hh : Int), (t : Int), (y : Int)] = (L3, u, 0) ∧ PutInv W L xs x t (i + 1) L3 (ys.set i (u : Int)) := by
  have hp1 := h.pre.trans hg.pre
  obtain ⟨y, h1, h2, h3⟩ := h.each i hi
  obtain ⟨L3, u, k1, k2, k3, -⟩ := ite_step (room := room) hg.ok (h := hh) (x := t) (y := y) hg.lt (Nat.lt_of_lt_of_le ht hp1.length_le) (Nat.lt_of_lt_of_le h2 hg.pre.length_le) hr
  refine ⟨y, L3, u, h1, k1, k2.ok, hp1.trans k2.pre, by rw [List.length_set]; exact h.len, fun k hk => ?_, by have := h.room; omega⟩
  by_cases e : k = i
  · subst e
    refine ⟨u, by rw [List.getElem?_set, if_pos rfl, if_pos (by have := h.len; omega)], k2.lt, fun vals => ?_⟩
    have h4 := hg.val vals
    rw [val_prefix h.pre hx] at h4
    rw [k2.val vals, h4, val_prefix hg.pre h2, h3 vals, val_prefix hp1 ht]
    rw [if_neg (show ¬ (k < k ∧ _) from fun h => Nat.lt_irrefl _ h.1)]
    by_cases e : val W vals L x = (k : Int)
    · rw [if_pos e, if_neg (by decide), if_pos ⟨by omega, e⟩]
    · rw [if_neg e, if_pos rfl, if_neg (fun h => e h.2)]
  · obtain ⟨v, g1, g2, g3⟩ := h.each k hk
    refine ⟨v, by rw [List.getElem?_set, if_neg (Ne.symm e)]; exact g1, Nat.lt_of_lt_of_le g2 (hg.pre.trans k2.pre).length_le, fun vals => ?_⟩
    rw [val_prefix (hg.pre.trans k2.pre) g2, g3 vals]
    by_cases hc : k < i ∧ val W vals L x = (k : Int)
    · rw [if_pos hc, if_pos ⟨by omega, hc.2⟩]
    · rw [if_neg hc, if_neg (fun h => hc ⟨by omega, h.2⟩)]
theorem PutInv.stop (hok : GOk W L) (h : PutInv W L xs x t i L1 ys) (hi : 2 ^ W ≤ i) (hin : i ≤ n) : PutInv W L xs x t n L1 ys :=
  ⟨h.ok, h.pre, h.len, fun k hk => by
    obtain ⟨u, h1, h2, h3⟩ := h.each k hk
    refine ⟨u, h1, h2, fun vals => ?_⟩
    rw [h3 vals]
    have hw := hok.word vals x
    by_cases hc : k < i ∧ val W vals L x = (k : Int)
    · rw [if_pos hc, if_pos ⟨by omega, hc.2⟩]
    · rw [if_neg hc, if_neg (fun h => hc ⟨by omega, h.2⟩)], by have := h.room; omega⟩
theorem PutInv.mem (h : PutInv W L xs x t i L1 ys) : ∀ e ∈ ys, (0 : Int) ≤ e ∧ e < (L1.length : Int) := fun e he => by
  obtain ⟨k, hk, rfl⟩ := List.getElem_of_mem he
  obtain ⟨u, h1, h2, -⟩ := h.each k (by have := h.len; omega)
  rw [List.getElem?_eq_getElem hk] at h1
  have := Option.some.inj h1
  omega
end
/-- A list of terms stands for a list of words. -/
def RelL (W : Nat) (vals : List Int) (L : List PNode) (xs us : List Int) : Prop :=
  xs.length = us.length ∧ ∀ i, i < us.length → ∃ t : Nat, xs[i]? = some (t : Int) ∧ t < L.length ∧ us[i]? = some (val W vals L t)
section
variable {W room : Nat} {vals : List Int} {L L' : List PNode} {xs us : List Int}
theorem RelL.keep (h : RelL W vals L xs us) (hp : L <+: L') : RelL W vals L' xs us :=
  ⟨h.1, fun i hi => by
    obtain ⟨t, h1, h2, h3⟩ := h.2 i hi
    exact ⟨t, h1, Nat.lt_of_lt_of_le h2 hp.length_le, by rw [val_prefix hp h2]; exact h3⟩⟩
theorem RelL.set (h : RelL W vals L xs us) (i : Nat) {t : Nat} {v : Int} (ht : t < L.length) (hv : val W vals L t = v) : RelL W vals L (xs.set i (t : Int)) (us.set i v) := by
  refine ⟨by rw [List.length_set, List.length_set]; exact h.1, fun k hk => ?_⟩
  rw [List.length_set] at hk
  by_cases e : i = k
  · subst e
    exact ⟨t, by rw [List.getElem?_set, if_pos rfl, if_pos (by have := h.1; omega)], ht, by rw [List.getElem?_set, if_pos rfl, if_pos hk, hv]⟩
  · obtain ⟨u, h1, h2, h3⟩ := h.2 k hk
    exact ⟨u, by rw [List.getElem?_set, if_neg e]; exact h1, h2, by rw [List.getElem?_set, if_neg e]; exact h3⟩
theorem RelL.mem (h : RelL W vals L xs us) : ∀ e ∈ xs, (0 : Int) ≤ e ∧ e < (L.length : Int) := fun e he => by
  obtain ⟨k, hk, rfl⟩ := List.getElem_of_mem he
  obtain ⟨u, h1, h2, -⟩ := h.2 k (by have := h.1; omega)
  rw [List.getElem?_eq_getElem hk] at h1
  have := Option.some.inj h1
  omega
theorem RelL.word (hok : GOk W L) (h : RelL W vals L xs us) : ∀ u ∈ us, (0 : Int) ≤ u ∧ u < ((2 ^ W : Nat) : Int) := fun e he => by
  obtain ⟨k, hk, rfl⟩ := List.getElem_of_mem he
  obtain ⟨u, -, -, h3⟩ := h.2 k hk
  rw [List.getElem?_eq_getElem hk] at h3
  have := Option.some.inj h3
  have := hok.word vals u
  omega
theorem RelL.zeros {z : Nat} (n : Nat) (hz : z < L.length) (hv : val W vals L z = 0) : RelL W vals L (List.replicate n (z : Int)) (List.replicate n 0) :=
  ⟨by simp, fun i hi => by
    rw [List.length_replicate] at hi
    exact ⟨z, by rw [List.getElem?_replicate, if_pos hi], hz, by rw [List.getElem?_replicate, if_pos hi, hv]⟩⟩
/-- A Put on lists of terms and of words. -/
theorem PutInv.rel {x t : Nat} {ys : List Int} (h : PutInv W L xs x t xs.length L' ys) (hr : RelL W vals L xs us) {at' : Nat} (hat : val W vals L x = (at' : Int)) : RelL W vals L' ys (us.set at' (val W vals L t)) := by
  refine ⟨by rw [List.length_set, h.len]; exact hr.1, fun k hk => ?_⟩
  rw [List.length_set] at hk
  obtain ⟨u, h1, h2, h3⟩ := h.each k (by have := hr.1; omega)
  refine ⟨u, h1, h2, ?_⟩
  rw [h3 vals, hat]
  obtain ⟨v, g1, g2, g3⟩ := hr.2 k hk
  by_cases e : at' = k
  · subst e
    rw [List.getElem?_set, if_pos rfl, if_pos hk, if_pos ⟨by have := hr.1; omega, rfl⟩]
  · rw [List.getElem?_set, if_neg e, if_neg (fun h => e (by omega)), List.getD_eq_getElem?_getD, g1]
    exact g3
end
/-- Lists of lists, with their sizes. -/
structure RelA (W : Nat) (vals : List Int) (L : List PNode) (sizes : List Int) (xss uss : List (List Int)) : Prop where
  l1 : xss.length = sizes.length
  l2 : uss.length = sizes.length
  each : ∀ a, a < sizes.length → ∃ xs us, xss[a]? = some xs ∧ uss[a]? = some us ∧ RelL W vals L xs us ∧ sizes[a]? = some (us.length : Int)
section
variable {W room : Nat} {vals : List Int} {L L' : List PNode} {sizes : List Int} {xss uss : List (List Int)}
theorem RelA.keep (h : RelA W vals L sizes xss uss) (hp : L <+: L') : RelA W vals L' sizes xss uss :=
  ⟨h.l1, h.l2, fun a ha => by
    obtain ⟨xs, us, h1, h2, h3, h4⟩ := h.each a ha
    exact ⟨xs, us, h1, h2, h3.keep hp, h4⟩⟩
theorem RelA.set (h : RelA W vals L sizes xss uss) (hp : L <+: L') {a : Nat} {xs us : List Int} (hr : RelL W vals L' xs us) (hs : sizes[a]? = some (us.length : Int)) : RelA W vals L' sizes (xss.set a xs) (uss.set a us) := by
  refine ⟨by rw [List.length_set]; exact h.l1, by rw [List.length_set]; exact h.l2, fun b hb => ?_⟩
  by_cases e : a = b
  · subst e
    exact ⟨xs, us, by rw [List.getElem?_set, if_pos rfl, if_pos (by have := h.l1; omega)], by rw [List.getElem?_set, if_pos rfl, if_pos (by have := h.l2; omega)], hr, hs⟩
  · obtain ⟨xs', us', h1, h2, h3, h4⟩ := h.each b hb
    exact ⟨xs', us', by rw [List.getElem?_set, if_neg e]; exact h1, by rw [List.getElem?_set, if_neg e]; exact h2, h3.keep hp, h4⟩
theorem RelA.zeros {z : Nat} (hz : z < L.length) (hv : val W vals L z = 0) (hs : ∀ s ∈ sizes, (0 : Int) ≤ s) : RelA W vals L sizes (sizes.map fun s => List.replicate s.toNat (z : Int)) (sizes.map fun s => List.replicate s.toNat 0) :=
  ⟨by simp, by simp, fun a ha => ⟨_, _, by rw [List.getElem?_map, List.getElem?_eq_getElem ha]; rfl, by rw [List.getElem?_map, List.getElem?_eq_getElem ha]; rfl, .zeros _ hz hv, by
    have := hs _ (List.getElem_mem ha)
    rw [List.getElem?_eq_getElem ha, List.length_replicate]
    congr 1
    omega⟩⟩
end
/-- A store of terms stands for a store of words. -/
structure BothOk (W : Nat) (vals : List Int) (nR : Nat) (sizes : List Int) (L : List PNode) (regs rregs : List Int) (arrs rarrs : List (List Int)) : Prop where
  ok : GOk W L
  regs : RelL W vals L regs rregs
  nregs : rregs.length = nR
  arrs : RelA W vals L sizes arrs rarrs
end Go.Proofs.YtiklidgcmheofaaDoor
namespace Go.Proofs.YtiklidgcmheofaaDoor
open Go.RowKit Go.Maps
set_option maxHeartbeats 3200000
/-- A store with its graph, the reference's store, the flat program and the values. -/
def Thing.both (bb gb sb rb : Nat) (W R : Int) (v1 v2 v3 v4 vv : Value) : Thing :=
  Thing.box bb 58 #[.pointer (some ⟨gb, 0, none⟩), .pointer (some ⟨sb, 0, none⟩), .pointer (some ⟨rb, 0, none⟩), .int .i64 W, .int .i64 R, v1, v2, v3, v4, vv]
structure BothC (w : World) (bb gb sb rb : Nat) (W R : Int) (v3 vv : Value) : Prop where
  c0 : w.cell? ⟨bb, 0, none⟩ = some (.pointer (some ⟨gb, 0, none⟩))
  c1 : w.cell? ⟨bb, 1, none⟩ = some (.pointer (some ⟨sb, 0, none⟩))
  c2 : w.cell? ⟨bb, 2, none⟩ = some (.pointer (some ⟨rb, 0, none⟩))
  c3 : w.cell? ⟨bb, 3, none⟩ = some (.int .i64 W)
  c4 : w.cell? ⟨bb, 4, none⟩ = some (.int .i64 R)
  c7 : w.cell? ⟨bb, 7, none⟩ = some v3
  c9 : w.cell? ⟨bb, 9, none⟩ = some vv
theorem both_cells {w : World} {bb gb sb rb : Nat} {W R : Int} {v1 v2 v3 v4 vv : Value} (h : (Thing.both bb gb sb rb W R v1 v2 v3 v4 vv).holds w) : BothC w bb gb sb rb W R v3 vv := by
  have hb : w.heap[bb]? = some (.cells #[.pointer (some ⟨gb, 0, none⟩), .pointer (some ⟨sb, 0, none⟩), .pointer (some ⟨rb, 0, none⟩), .int .i64 W, .int .i64 R, v1, v2, v3, v4, vv] 58 (0, 0)) := h
  refine ⟨?_, ?_, ?_, ?_, ?_, ?_, ?_⟩
  · rw [cell_of_row w bb 0 _ _ _ hb]; rfl
  · rw [cell_of_row w bb 1 _ _ _ hb]; rfl
  · rw [cell_of_row w bb 2 _ _ _ hb]; rfl
  · rw [cell_of_row w bb 3 _ _ _ hb]; rfl
  · rw [cell_of_row w bb 4 _ _ _ hb]; rfl
  · rw [cell_of_row w bb 7 _ _ _ hb]; rfl
  · rw [cell_of_row w bb 9 _ _ _ hb]; rfl
/-- What does not turn: the flat program's lists and the values. -/
structure BothIn (w0 : World) (W nR : Nat) (sizes vals : List Int) (v3 vv : Value) : Prop where
  sz : SliceOf w0 .i64 v3 sizes
  vl : SliceOf w0 .u64 vv vals
  nvals : vals.length ≤ 8
  u64 : U64s vals
  R1 : 1 ≤ nR
  R2 : nR ≤ 8
  A1 : 1 ≤ sizes.length
  A2 : sizes.length ≤ 4
  each : ∀ s ∈ sizes, (1 : Int) ≤ s ∧ s ≤ 8
section
variable {w0 wr w : World} {ts : List Thing} {F I : List Nat} {gb W room bb sb rb nR : Nat} {L : List PNode} {y z : Lay} {regs rregs vals sizes : List Int} {arrs rarrs : List (List Int)} {v1 v2 v3 v4 vv : Value}
/-- A store and its words. -/
def bothTs (F I : List Nat) (gb W room : Nat) (L : List PNode) (bb sb rb nR : Nat) (y z : Lay) (regs rregs : List Int) (arrs rarrs : List (List Int)) (v1 v2 v3 v4 vv : Value) (ts : List Thing) : List Thing :=
  Thing.graph F I gb W room L :: Thing.gst gb sb y regs arrs :: Thing.rst W rb z rregs rarrs :: Thing.both bb gb sb rb W nR v1 v2 v3 v4 vv :: ts
/-- Is. -/
theorem Lab.bis (hi : SliceOf w0 .u64 vv vals) (hl : vals.length ≤ 8) (hu : U64s vals) (h : Lab w0 wr (bothTs F I gb W room L bb sb rb nR y z regs rregs arrs rarrs v1 v2 v3 v4 vv ts)) (t : Nat) (ht : t < L.length) (v : Int) :
    Calls Tryd.prog 26 #[.pointer (some ⟨bb, 0, none⟩), .int .i64 t, .int .u64 v] wr fun e w' => e = .returned (.bool (decide (val W vals L t = v))) ∧ Below wr.heap.size wr w' := by
  obtain ⟨c0, -, -, -, -, -, c9⟩ := both_cells h.fourth
  have hev := eval_any (Gr.drewN h.gr 1) (t : Int) vals vv ((hi.laterS h.below).laterS (below_drewN (Below.refl _ _) 1)) (by omega) hu
  have e1 : evalR W vals L (t : Int) = (val W vals L t, 0) := by unfold evalR; rw [if_pos ⟨by omega, by omega⟩, Int.toNat_natCast]
  rw [e1] at hev
  obtain ⟨x, hx⟩ : ∃ x, val W vals L t = x := ⟨_, rfl⟩
  rw [hx] at hev ⊢
  obtain ⟨B, hB⟩ : ∃ B, decide (x = v) = B := ⟨_, rfl⟩
  rw [hB]
  have g : (x == v) = B := hB
  replace hev : Calls Tryd.prog 15 #[.pointer (some ⟨gb, 0, none⟩), .int .i64 t, vv] wr.drew _ := hev
  have HE := Lib.hid hev
  clear hev hi hl hu h ht hx e1 hB
  go_enter Tryd.func26, Tryd.ntmps26
  go_upto_region 1 with fail
  go_region_held3 (fun w' => w'.cell? ⟨bb, 0, none⟩ = some (.pointer (some ⟨gb, 0, none⟩)) ∧ w'.cell? ⟨bb, 9, none⟩ = some vv) (first | exact ⟨by assumption, by assumption⟩ | go_keep)
    (first | (go_at_call 15; refine HE.out.mono ?_; rintro e w5 ⟨rfl, hb5⟩; have q0 := cell_later hb5 (show wr.drew.cell? ⟨bb, 0, none⟩ = _ from c0); have q9 := cell_later hb5 (show wr.drew.cell? ⟨bb, 9, none⟩ = _ from c9); have HB := Lib.hid hb5; clear hb5))
  all_goals
    cases B
    all_goals
      go_wp2
      go_ret
      exact ⟨rfl, (below_drewN (Below.refl _ _) 1).trans HB.out⟩
end
end Go.Proofs.YtiklidgcmheofaaDoor
namespace Go.Proofs.YtiklidgcmheofaaDoor
open Go.RowKit Go.Maps
set_option maxHeartbeats 3200000
section
variable {w0 wr w : World} {ts : List Thing} {F I : List Nat} {gb W room sb : Nat} {L : List PNode} {y : Lay} {regs : List Int} {arrs : List (List Int)}
theorem lt_pow_n {n : Nat} (hn : n ≤ 64) (hW : 64 ≤ W) : n < 2 ^ W := Nat.lt_of_lt_of_le (show n < 2 ^ 64 by omega) (Nat.pow_le_pow_right (by decide) hW)
theorem wrap_powS {m : Nat} (hm : m < 64) : IntKind.u64.wrap ((2 : Int) ^ m) = ((2 ^ m : Nat) : Int) := by
  have hl : 2 ^ m < 18446744073709551616 := by
    have := Nat.pow_lt_pow_right (a := 2) (by decide) hm; simpa using this
  have e : (2 : Int) ^ m = ((2 ^ m : Nat) : Int) := by simp
  rw [e, wrap_u64_nat, Nat.mod_eq_of_lt hl]
set_option maxRecDepth 100000 in
/-- Inside. -/
theorem Lab.sinside (h : Lab w0 wr (Thing.graph F I gb W room L :: Thing.gst gb sb y regs arrs :: ts)) (hy : arrs.length = y.vs.length) (hok : GOk W L) (a : Nat) {xs : List Int} (ha : arrs[a]? = some xs) (x : Nat) (hx : x < L.length) (hn : xs.length ≤ 64) (hr : phi W L + 1 < room) :
    Calls Tryd.prog 19 #[.pointer (some ⟨sb, 0, none⟩), .int .i64 a, .int .i64 x] wr fun e w' => ∃ (L' : List PNode) (t : Nat) (F' I' : List Nat), e = .returned (.tuple #[.int .i64 (t : Int), .int .i64 0]) ∧ Got W L L' t (fun vals => if val W vals L x < (xs.length : Int) then 1 else 0) ∧ phi W L' ≤ phi W L + 1 ∧ Lab w0 w' (Thing.graph F' I' gb W room L' :: Thing.gst gb sb y regs arrs :: ts) := by
  have hs := Lab.st_read hy h.swap
  have hmay := smay_any hs h.gr (a : Int) (x : Int)
  have hal := (List.getElem?_eq_some_iff.1 ha).1
  rw [if_pos ⟨⟨by omega, by omega⟩, by omega, by omega⟩] at hmay
  have hwd := width_any h.gr
  obtain ⟨aa, na, ca, hav, hna, hrow⟩ := hs.arrs
  obtain ⟨b, off, xs', va, rfl, hxs', hcl, hsl⟩ := hrow a (by omega)
  obtain rfl : xs' = xs := by rw [ha] at hxs'; exact (Option.some.inj hxs').symm
  obtain ⟨ai, ni, ci, rfl, hni, -⟩ := hsl
  have d0 := hs.c0
  have d2 := hs.c2
  rw [hav] at d2
  have han : (a : Int) < (na : Int) := by omega
  have a0 : (0 : Int) ≤ (a : Int) := by omega
  rw [hni] at hn ⊢
  have wn : IntKind.u64.wrap (ni : Int) = (ni : Int) := by rw [wrap_u64_nat, Nat.mod_eq_of_lt (by omega)]
  have HM := Lib.hid hmay; have HW := Lib.hid hwd; have HL := Lib.hid h; have HOK := Lib.hid hok; have HX := Lib.hid (And.intro hx (And.intro hn hr)); have HY := Lib.hid hy
  clear hs hmay hwd h hok hx hr hal ha hxs' hrow hav hna hni hy
  by_cases hc : W < 64 ∧ 2 ^ W ≤ ni
  · have hwp : IntKind.u64.wrap ((2 : Int) ^ min W 64) = ((2 ^ W : Nat) : Int) := by rw [Nat.min_eq_left (by omega)]; exact wrap_powS hc.1
    obtain ⟨L', t, k1, k2, k3, -, -⟩ := got_const (room := room) HOK.out 1 (by have := HX.out.2.2; omega)
    have hgot : Got W L L' t (fun vals => if val W vals L x < (ni : Int) then 1 else 0) := k2.congr fun vals => by
      have h1 := HOK.out.word vals x
      have h2 := hc.2
      rw [if_pos (by omega), Nat.mod_eq_of_lt (by have := two_le_pow HOK.out.w1; omega)]; rfl
    have hcc := const_any HL.out.gr 1 (by decide)
    rw [k1] at hcc
    replace hcc : Calls Tryd.prog 31 #[.pointer (some ⟨gb, 0, none⟩), .int .u64 1] wr _ := hcc
    have HC := Lib.hid hcc; have HG := Lib.hid (And.intro hgot k3)
    clear k1 k2 k3 hgot hcc
    have g1 : decide ((W : Int) < 64) = true := decide_eq_true (by omega)
    have hc2 := hc.2
    generalize hP : 2 ^ W = P at *
    have g2 : decide (P ≤ ni) = true := decide_eq_true hc2
    clear hc hc2 hP
    go_enter Tryd.func19, Tryd.ntmps19
    go_wp2_with fail
    go_at_call 34
    refine HM.out.mono ?_
    rintro e w5 ⟨rfl, rfl⟩
    go_wp2_with fail
    go_at_call 30
    refine HW.out.mono ?_
    rintro e w5 ⟨rfl, rfl⟩
    go_wp2_with fail
    go_at_call 31
    refine HC.out.mono ?_
    intro e w5 hp
    obtain ⟨F2, I2, rfl, hl2⟩ := HL.out.gpost hp
    have HL2 := Lib.hid hl2
    clear hl2 hp
    go_wp2
    go_ret2
    exact ⟨L', t, F2, I2, rfl, HG.out.1, HG.out.2, HL2.out⟩
  · have hlt : ni < 2 ^ W := by
      by_cases h64 : W < 64
      · have := hc; omega
      · exact lt_pow_n HX.out.2.1 (by omega)
    obtain ⟨L1, c, L2, t, k1, k2, k3, k4, k5⟩ := lt_step (room := room) HOK.out HX.out.1 HX.out.2.1 hlt HX.out.2.2
    have hcc := const_any HL.out.gr ni (by have := HX.out.2.1; omega)
    rw [k1] at hcc
    have HC := Lib.hid hcc; have HG := Lib.hid (And.intro k3 (And.intro k4 k5))
    have HLT := Lib.hid hlt; have HCC := Lib.hid hc
    clear k1 k2 k3 k4 k5 hcc hc hlt
    by_cases h64 : W < 64
    · have hwp : IntKind.u64.wrap ((2 : Int) ^ min W 64) = ((2 ^ W : Nat) : Int) := by rw [Nat.min_eq_left (by omega)]; exact wrap_powS h64
      have g1 : decide ((W : Int) < 64) = true := decide_eq_true (by omega)
      generalize hP : 2 ^ W = P at *
      have g2 : decide (P ≤ ni) = false := decide_eq_false (by have := HLT.out; omega)
      clear h64 hP
      go_enter Tryd.func19, Tryd.ntmps19
      go_wp2_with fail
      go_at_call 34
      refine HM.out.mono ?_
      rintro e w5 ⟨rfl, rfl⟩
      go_wp2_with fail
      go_at_call 30
      refine HW.out.mono ?_
      rintro e w5 ⟨rfl, rfl⟩
      go_wp2_with fail
      go_at_call 31
      refine HC.out.mono ?_
      intro e w5 hp
      obtain ⟨F2, I2, rfl, hl2⟩ := HL.out.gpost hp
      have d0' := (Lab.st_read HY.out hl2.swap).c0
      have hl3 := hl2.alloc #[.int .i64 (x : Int), .int .i64 (c : Int)] 3
      have happ := sapp_any hl3.second 17 (by decide) [(x : Int), (c : Int)] (.slice (some ⟨w5.heap.size, 0, none⟩) 2 2) (slice_of_box (xs := [(x : Int), (c : Int)]) hl3.box1)
      rw [HG.out.1] at happ
      replace happ : Calls Tryd.prog 37 #[.pointer (some ⟨gb, 0, none⟩), .int .u8 17, .slice (some ⟨w5.heap.size, 0, none⟩) 2 2] _ _ := happ
      have HL3 := Lib.hid hl3.swap; have HAP := Lib.hid happ
      clear hl2 hp hl3 happ
      go_wp2_with fail
      go_at_call 37
      refine HAP.out.mono ?_
      intro e w6 hp
      obtain ⟨F3, I3, rfl, hl4⟩ := HL3.out.gpost hp
      have HL4 := Lib.hid hl4
      clear hl4 hp
      go_wp2
      go_ret2
      exact ⟨L2, t, F3, I3, rfl, HG.out.2.1, HG.out.2.2, HL4.out.swap.drop⟩
    · have g1 : decide ((W : Int) < 64) = false := decide_eq_false (by omega)
      clear h64
      go_enter Tryd.func19, Tryd.ntmps19
      go_wp2_with fail
      go_at_call 34
      refine HM.out.mono ?_
      rintro e w5 ⟨rfl, rfl⟩
      go_wp2_with fail
      go_at_call 30
      refine HW.out.mono ?_
      rintro e w5 ⟨rfl, rfl⟩
      go_wp2_with fail
      go_at_call 31
      refine HC.out.mono ?_
      intro e w5 hp
      obtain ⟨F2, I2, rfl, hl2⟩ := HL.out.gpost hp
      have d0' := (Lab.st_read HY.out hl2.swap).c0
      have hl3 := hl2.alloc #[.int .i64 (x : Int), .int .i64 (c : Int)] 3
      have happ := sapp_any hl3.second 17 (by decide) [(x : Int), (c : Int)] (.slice (some ⟨w5.heap.size, 0, none⟩) 2 2) (slice_of_box (xs := [(x : Int), (c : Int)]) hl3.box1)
      rw [HG.out.1] at happ
      replace happ : Calls Tryd.prog 37 #[.pointer (some ⟨gb, 0, none⟩), .int .u8 17, .slice (some ⟨w5.heap.size, 0, none⟩) 2 2] _ _ := happ
      have HL3 := Lib.hid hl3.swap; have HAP := Lib.hid happ
      clear hl2 hp hl3 happ
      go_wp2_with fail
      go_at_call 37
      refine HAP.out.mono ?_
      intro e w6 hp
      obtain ⟨F3, I3, rfl, hl4⟩ := HL3.out.gpost hp
      have HL4 := Lib.hid hl4
      clear hl4 hp
      go_wp2
      go_ret2
      exact ⟨L2, t, F3, I3, rfl, HG.out.2.1, HG.out.2.2, HL4.out.swap.drop⟩
end
end Go.Proofs.YtiklidgcmheofaaDoor
namespace Go.Proofs.YtiklidgcmheofaaDoor
open Go.RowKit Go.Maps
set_option maxHeartbeats 3200000
section
variable {w0 wr w : World} {ts : List Thing} {F I : List Nat} {gb W room bb sb rb nR : Nat} {L : List PNode} {y z : Lay} {regs rregs vals sizes : List Int} {arrs rarrs : List (List Int)} {v1 v2 v3 v4 vv : Value}
theorem tmod_nat (i n : Nat) : ((i : Int).tmod (n : Int)) = ((i % n : Nat) : Int) := by
  rw [Int.tmod_eq_emod_of_nonneg (by omega)]
  exact (Int.natCast_emod i n).symm
/-- reg. -/
theorem Lab.breg (hi : SliceOf w0 .u64 vv vals) (hl : vals.length ≤ 8) (hu : U64s vals) (h : Lab w0 wr (bothTs F I gb W room L bb sb rb nR y z regs rregs arrs rarrs v1 v2 v3 v4 vv ts)) (hy : arrs.length = y.vs.length) (hz : rarrs.length = z.vs.length)
    (hb : RelL W vals L regs rregs) (hn : rregs.length = nR) (h1 : 1 ≤ nR) (h8 : nR ≤ 1000) (i : Nat) (hi8 : i ≤ 255) :
    ∃ (t : Nat) (v : Int), regs[i % nR]? = some (t : Int) ∧ t < L.length ∧ rregs[i % nR]? = some v ∧ val W vals L t = v ∧
      Calls Tryd.prog 41 #[.pointer (some ⟨bb, 0, none⟩), .int .u8 i] wr fun e w' => e = .returned (.tuple #[.int .i64 t, .int .u64 v, .bool true]) ∧ Below wr.heap.size wr w' := by
  obtain ⟨n, hin⟩ : ∃ n, i % nR = n := ⟨_, rfl⟩
  have hnl : n < nR := by rw [← hin]; exact Nat.mod_lt _ (by omega)
  rw [hin]
  obtain ⟨t, ht1, ht2, ht3⟩ := hb.2 n (by omega)
  refine ⟨t, _, ht1, ht2, ht3, rfl, ?_⟩
  obtain ⟨v, hv⟩ : ∃ v, val W vals L t = v := ⟨_, rfl⟩
  rw [hv] at ht3 ⊢
  obtain ⟨c0, c1, c2, c3, c4, c7, c9⟩ := both_cells h.fourth
  have hs := Lab.st_read hy h.swap
  have hr := Lab.st_read hz h.rot3
  have href := sref_reg hs n 0 ht1
  obtain ⟨ar, nr, cr, hrv, hnr, hx⟩ := hr.regs
  obtain ⟨br, offr, rfl, rc⟩ := hx n (by omega)
  have r1 := hr.c1
  rw [hrv] at r1
  rw [List.getD_eq_getElem?_getD, ht3] at rc
  replace rc : wr.cell? ⟨br, offr + n, none⟩ = some (.int .u64 v) := rc
  have hmod := tmod_nat i nR
  rw [hin] at hmod
  have hn0 : ¬ nR = 0 := by omega
  have hnr' : (n : Int) < (nr : Int) := by omega
  have n0 : (0 : Int) ≤ (n : Int) := by omega
  have HREF := Lib.hid href; have HL := Lib.hid h; have HV := Lib.hid (And.intro hi (And.intro hl (And.intro hu (And.intro ht2 hv))))
  clear hi hl hu h hb ht1 ht2 ht3 hv c0 c3 c7 c9 hs hr href hrv hnr hx hy hz hin hn
  go_enter Tryd.func41, Tryd.ntmps41
  go_wp2_with fail
  go_at_call 12
  refine HREF.out.mono ?_
  rintro e w5 ⟨rfl, hb5⟩
  have p2 := cell_later hb5 c2
  have p1 := cell_later hb5 r1
  have p3 := cell_later hb5 rc
  have hl5 := HL.out.later hb5
  have his := Lab.bis HV.out.1 HV.out.2.1 HV.out.2.2.1 (hl5.drewN 1) t HV.out.2.2.2.1 v
  rw [decide_eq_true HV.out.2.2.2.2] at his
  have HIS := Lib.hid his; have HB5 := Lib.hid hb5
  clear his hl5 hb5 c1 c2 c4 r1 rc HREF
  go_upto_region 3 with fail
  go_region_held3 (fun w' => w'.cell? ⟨bb, 2, none⟩ = some (.pointer (some ⟨rb, 0, none⟩)) ∧ w'.cell? ⟨rb, 1, none⟩ = some (.slice (some ⟨br, offr, none⟩) nr cr) ∧ w'.cell? ⟨br, offr + n, none⟩ = some (.int .u64 v)) (first | exact ⟨by assumption, by assumption, by assumption⟩ | go_keep)
    (first | (go_at_call 26; refine HIS.out.mono ?_; rintro e w6 ⟨rfl, hb6⟩; have u2 := cell_later hb6 p2; have u1 := cell_later hb6 p1; have u3 := cell_later hb6 p3; have HB6 := Lib.hid hb6; clear hb6))
  all_goals
    go_wp2
    go_ret3
    exact ⟨rfl, HB5.out.trans (((below_drewN (Below.refl _ _) 1).trans HB6.out).mono HB5.out.size)⟩
/-- number. -/
theorem Lab.bnumber (hi : SliceOf w0 .u64 vv vals) (hl : vals.length ≤ 8) (hu : U64s vals) (h : Lab w0 wr (bothTs F I gb W room L bb sb rb nR y z regs rregs arrs rarrs v1 v2 v3 v4 vv ts)) (hy : arrs.length = y.vs.length) (hz : rarrs.length = z.vs.length)
    (hok : GOk W L) (hr : phi W L < room) (q : Nat) (hq : q < 18446744073709551616) :
    ∃ (L' : List PNode) (t : Nat), Got W L L' t (fun _ => ((q % 2 ^ W : Nat) : Int)) ∧ phi W L' ≤ phi W L + 1 ∧ (q ≤ 64 → phi W L' ≤ phi W L) ∧ numOf L' (t : Int) = some (q % 2 ^ W) ∧
      Calls Tryd.prog 18 #[.pointer (some ⟨bb, 0, none⟩), .int .u64 q] wr fun e w' => ∃ F' I', e = .returned (.tuple #[.int .i64 t, .bool true]) ∧ Lab w0 w' (bothTs F' I' gb W room L' bb sb rb nR y z regs rregs arrs rarrs v1 v2 v3 v4 vv ts) := by
  obtain ⟨L', t, k1, k2, k3, k4, k5⟩ := got_const (room := room) hok q hr
  refine ⟨L', t, k2, k3, k4, k5, ?_⟩
  obtain ⟨c0, c1, c2, c3, c4, c7, c9⟩ := both_cells h.fourth
  have href := Lab.sref_num h hy q hq k1
  have HREF := Lib.hid href; have HV := Lib.hid (And.intro hi (And.intro hl (And.intro hu (And.intro k2 (And.intro hq (And.intro hz hok))))))
  clear hi hl hu h hok hr hq hy hz k1 k2 k3 k4 k5 c0 c2 c3 c4 c7 c9 href
  go_enter Tryd.func18, Tryd.ntmps18
  go_wp2_with fail
  go_at_call 12
  refine HREF.out.mono ?_
  rintro e w5 ⟨F2, I2, rfl, hl5⟩
  replace hl5 : Lab w0 w5 (bothTs F2 I2 gb W room L' bb sb rb nR y z regs rregs arrs rarrs v1 v2 v3 v4 vv ts) := hl5
  have p2 := (both_cells hl5.fourth).c2
  have r0 := (Lab.st_read HV.out.2.2.2.2.2.1 hl5.rot3).c0
  have htr := rtrim30 r0 HV.out.2.2.2.2.2.2.w1 HV.out.2.2.2.2.2.2.w2 q (by have := HV.out.2.2.2.2.1; omega)
  have his := Lab.bis HV.out.1 HV.out.2.1 HV.out.2.2.1 hl5 t HV.out.2.2.2.1.lt ((q % 2 ^ W : Nat) : Int)
  rw [decide_eq_true (HV.out.2.2.2.1.val vals)] at his
  obtain ⟨m, hm⟩ : ∃ m, q % 2 ^ W = m := ⟨_, rfl⟩
  rw [hm] at htr his
  have HIS := Lib.hid his; have HT := Lib.hid htr; have HL5 := Lib.hid hl5
  clear his htr hl5 hm c1 HREF
  go_wp2_with fail
  go_at_call 20
  refine HT.out.mono ?_
  rintro e w6 ⟨rfl, rfl⟩
  go_wp2_with fail
  go_at_call 26
  refine HIS.out.mono ?_
  rintro e w6 ⟨rfl, hb6⟩
  have HB6 := Lib.hid hb6
  clear hb6
  go_wp2
  go_ret2
  exact ⟨F2, I2, rfl, HL5.out.later HB6.out⟩
end
end Go.Proofs.YtiklidgcmheofaaDoor
namespace Go.Proofs.YtiklidgcmheofaaDoor
open Go.RowKit Go.Maps
set_option maxHeartbeats 3200000
/-- What the iterator holds by reference. -/
def caK (p sb : Nat) (a x : Nat) (ep : Nat) : Thing := Thing.bundle [Thing.box p 34 #[.pointer (some ⟨sb, 0, none⟩)], Thing.box (p + 1) 3 #[.int .i64 a], Thing.box (p + 2) 3 #[.int .i64 x], Thing.box (p + 3) 89 #[.pointer (some ⟨ep, 0, none⟩)]]
structure CaC (p sb a x ep : Nat) (w : World) : Prop where
  c0 : w.cell? ⟨p, 0, none⟩ = some (.pointer (some ⟨sb, 0, none⟩))
  c1 : w.cell? ⟨p + 1, 0, none⟩ = some (.int .i64 a)
  c2 : w.cell? ⟨p + 2, 0, none⟩ = some (.int .i64 x)
  c3 : w.cell? ⟨p + 3, 0, none⟩ = some (.pointer (some ⟨ep, 0, none⟩))
theorem caK_cells {p sb a x ep : Nat} {w : World} (h : (caK p sb a x ep).holds w) : CaC p sb a x ep w := by
  have g : ∀ b T v, Thing.box b T #[v] ∈ [Thing.box p 34 #[.pointer (some ⟨sb, 0, none⟩)], Thing.box (p + 1) 3 #[.int .i64 a], Thing.box (p + 2) 3 #[.int .i64 x], Thing.box (p + 3) 89 #[.pointer (some ⟨ep, 0, none⟩)]] → w.cell? ⟨b, 0, none⟩ = some v := fun b T v hm => by
    rw [cell_of_row w b 0 _ _ _ (h.1 _ hm)]; rfl
  exact ⟨g p 34 _ (by simp), g (p + 1) 3 _ (by simp), g (p + 2) 3 _ (by simp), g (p + 3) 89 _ (by simp)⟩
section
variable {w0 wr w : World} {ts : List Thing}
theorem ca_boxes (h : Lab w0 wr ts) (sb a x ep : Nat) :
    Lab w0 ((((wr.alloc (.cells #[.pointer (some ⟨sb, 0, none⟩)] 34)).alloc (.cells #[.int .i64 (a : Int)] 3)).alloc (.cells #[.int .i64 (x : Int)] 3)).alloc (.cells #[.pointer (some ⟨ep, 0, none⟩)] 89)) (caK wr.heap.size sb a x ep :: ts) := by
  have h4 := (((h.alloc #[.pointer (some ⟨sb, 0, none⟩)] 34).alloc #[.int .i64 (a : Int)] 3).alloc #[.int .i64 (x : Int)] 3).alloc #[.pointer (some ⟨ep, 0, none⟩)] 89
  simp only [World.size_alloc, Nat.add_assoc, Nat.reduceAdd] at h4
  exact Lab.bundle (fs := [_, _, _, _]) h4.swap.rot3.rot4
/-- cases. -/
theorem Lab.cases (h : Lab w0 wr ts) (sb a x ep : Nat) :
    Calls Tryd.prog 38 #[.pointer (some ⟨sb, 0, none⟩), .int .i64 a, .int .i64 x, .pointer (some ⟨ep, 0, none⟩)] wr fun e w' => ∃ p, e = .returned (.func (.func 55) #[] #[.pointer (some ⟨p, 0, none⟩), .pointer (some ⟨p + 1, 0, none⟩), .pointer (some ⟨p + 3, 0, none⟩), .pointer (some ⟨p + 2, 0, none⟩)]) ∧ Lab w0 w' (caK p sb a x ep :: ts) := by
  have HB := Lib.hid (ca_boxes h sb a x ep)
  clear h
  go_enter Tryd.func38, Tryd.ntmps38
  go_wp2
  go_ret
  exact ⟨_, rfl, HB.out⟩
/-- What a caller of the iterator promises: its states, and a round for each element that an index may mean. -/
structure CaseIn (W room n x : Nat) (C : Nat → List PNode → List Thing → Prop) : Prop where
  ok : ∀ i L ts, C i L ts → GOk W L ∧ x < L.length ∧ phi W L + 2 * (n - i) < room
  skip : ∀ i L ts L2 h, i < n → i < 2 ^ W → C i L ts → Got W L L2 h (fun vals => if val W vals L x = (i : Int) then 1 else 0) → phi W L2 ≤ phi W L + 1 → (isNum L (x : Int) = true → phi W L2 ≤ phi W L ∧ isNum L2 (h : Int) = true) → numOf L2 (h : Int) = some 0 → C (i + 1) L2 ts
  stop : ∀ i L ts, C i L ts → W < 64 → 2 ^ W ≤ i → i ≤ n → C n L ts
section
variable {F I : List Nat} {gb W room sb n x a p ep l : Nat} {L : List PNode} {y : Lay} {regs : List Int} {arrs : List (List Int)} {C : Nat → List PNode → List Thing → Prop}
set_option maxRecDepth 100000 in
theorem cases1_lab {xs : List Int} (hy : arrs.length = y.vs.length) (ha : arrs[a]? = some xs) (hn : xs.length = n) (hn64 : n ≤ 64) (hc : CaseIn W room n x C)
    (hY : ∀ i L1 ts1 wx F1 I1 L2 h, i < n → i < 2 ^ W → C i L1 ts1 → Got W L1 L2 h (fun vals => if val W vals L1 x = (i : Int) then 1 else 0) → phi W L2 ≤ phi W L1 + 1 → (isNum L1 (x : Int) = true → phi W L2 ≤ phi W L1 ∧ isNum L2 (h : Int) = true) → numOf L2 (h : Int) ≠ some 0 →
      Lab w0 wx (Thing.graph F1 I1 gb W room L2 :: Thing.gst gb sb y regs arrs :: caK p sb a x ep :: ts1) →
      YieldAt Fence.wide 0 Tryd.prog l #[.int .i64 i, .int .i64 h] wx fun e w' => e = .returned (.bool true) ∧ ∃ F2 I2 L3 ts2, C (i + 1) L3 ts2 ∧ Lab w0 w' (Thing.graph F2 I2 gb W room L3 :: Thing.gst gb sb y regs arrs :: caK p sb a x ep :: ts2))
    (h : Lab w0 wr (Thing.graph F I gb W room L :: Thing.gst gb sb y regs arrs :: caK p sb a x ep :: ts)) (h0 : C 0 L ts) :
    Calls Tryd.prog 55 #[.func (.yield l) #[] #[], .pointer (some ⟨p, 0, none⟩), .pointer (some ⟨p + 1, 0, none⟩), .pointer (some ⟨p + 3, 0, none⟩), .pointer (some ⟨p + 2, 0, none⟩)] wr fun e w' =>
      (∃ v, e = .returned v) ∧ ∃ F2 I2 L3 ts2, C n L3 ts2 ∧ Lab w0 w' (Thing.graph F2 I2 gb W room L3 :: Thing.gst gb sb y regs arrs :: caK p sb a x ep :: ts2) := by
  have hs := Lab.st_read hy h.swap
  have hk := caK_cells h.third
  obtain ⟨aa, na, ca, hav, hna, hrow⟩ := hs.arrs
  have hal := (List.getElem?_eq_some_iff.1 ha).1
  obtain ⟨b, off, xs', va, rfl, hxs', hcl, hsl⟩ := hrow a (by omega)
  obtain rfl : xs' = xs := by rw [ha] at hxs'; exact (Option.some.inj hxs').symm
  obtain ⟨ai, ni, ci, rfl, hni, -⟩ := hsl
  obtain rfl : ni = n := by rw [← hni, hn]
  have d2 := hs.c2
  rw [hav] at d2
  have han : (a : Int) < (na : Int) := by omega
  have a0 : (0 : Int) ≤ (a : Int) := by omega
  obtain ⟨k0, k1, k2, k3⟩ := hk
  have HL := Lib.hid h; have HC := Lib.hid hc; have HY := Lib.hid hY; have H0 := Lib.hid h0; have HYV := Lib.hid hy
  clear hs hrow hxs' h hc hY h0 hy hav hna hal ha hni hn
  go_enter Tryd.func55, Tryd.ntmps55
  go_wp2
  go_quiet (fail)
  go_wp2
  go_loopw [21] (fun v wx => ∃ i : Nat, i ≤ ni ∧ v = .int .i64 i ∧ ∃ F1 I1 L1 ts1, C i L1 ts1 ∧ Lab w0 wx (Thing.graph F1 I1 gb W room L1 :: Thing.gst gb sb y regs arrs :: caK p sb a x ep :: ts1)) (fun v _ => ni - (intOf v).toNat)
  case atStart => exact ⟨0, Nat.zero_le _, rfl, F, I, L, ts, H0.out, HL.out.drewN _⟩
  case round =>
    clear k0 k1 k2 k3 d2 hcl H0 HL
    obtain ⟨i, hi, rfl, F1, I1, L1, ts1, hci, hl⟩ := hrel
    by_cases hlt : i < ni
    · obtain ⟨hok, hx1, hph⟩ := HC.out.ok i L1 ts1 hci
      have hs := Lab.st_read HYV.out hl.swap
      obtain ⟨k0, k1, k2, k3⟩ := caK_cells hl.third
      have d0 := hs.c0
      have hwd := width_any hl.gr
      have hlt' : (i : Int) < (ni : Int) := by omega
      have i0 : (0 : Int) ≤ (i : Int) := by omega
      have wi : IntKind.u64.wrap (i : Int) = (i : Int) := by rw [wrap_u64_nat, Nat.mod_eq_of_lt (by omega)]
      have HLR := Lib.hid hl; have HCI := Lib.hid hci; have HW := Lib.hid hwd; have HOK := Lib.hid (And.intro hok (And.intro hx1 hph))
      clear hl hci hs hwd hok hx1 hph
      by_cases hstop : W < 64 ∧ 2 ^ W ≤ i
      · have hwp : IntKind.u64.wrap ((2 : Int) ^ min W 64) = ((2 ^ W : Nat) : Int) := by rw [Nat.min_eq_left (by omega)]; exact wrap_powS hstop.1
        have HST := Lib.hid (HC.out.stop i L1 ts1 HCI.out hstop.1 hstop.2 hi)
        have g1 : decide ((W : Int) < 64) = true := decide_eq_true (by omega)
        have hc2 := hstop.2
        generalize hP : 2 ^ W = P at hwp hc2
        have g2 : decide (P ≤ i) = true := decide_eq_true hc2
        clear hstop hc2 hP
        go_wp2_with fail
        go_at_call 30
        refine HW.out.mono ?_
        rintro e w5 ⟨rfl, rfl⟩
        go_wp2
        refine bodyPost_ret (results_none rfl _ _ _) rfl ?_
        exact ⟨⟨_, rfl⟩, F1, I1, L1, ts1, HST.out, HLR.out⟩
      · have hiW : i < 2 ^ W := by
          by_cases h64 : W < 64
          · omega
          · exact lt_pow_n (by omega) (by omega)
        have hph := HOK.out.2.2
        obtain ⟨L2, cN, L3, hh, e1, pre1, e2, got, ph3, num3⟩ := case_step (room := room) (i := i) HOK.out.1 HOK.out.2.1 (by omega) hiW (by omega)
        have hcc := const_any HLR.out.gr i (by omega)
        rw [e1] at hcc
        have HCC := Lib.hid hcc; have HG := Lib.hid (And.intro e2 (And.intro got (And.intro ph3 num3)))
        have HIW := Lib.hid hiW
        clear hcc e1 pre1 e2 got ph3 num3 hph
        have hw64 : (W < 64 ∧ i < 2 ^ W) ∨ ¬ W < 64 := by omega
        clear hstop
        have hgo : (decide ((W : Int) < 64) = true ∧ ∃ P, IntKind.u64.wrap ((2 : Int) ^ min W 64) = ((P : Nat) : Int) ∧ decide (P ≤ i) = false) ∨ decide ((W : Int) < 64) = false := by
          rcases hw64 with ⟨h1, h2⟩ | h1
          · exact .inl ⟨decide_eq_true (by omega), 2 ^ W, by rw [Nat.min_eq_left (by omega)]; exact wrap_powS h1, decide_eq_false (by omega)⟩
          · exact .inr (decide_eq_false (by omega))
        clear hw64 hiW
        rcases hgo with ⟨g1, P, hwp, g2⟩ | g1
        all_goals
          go_wp2_with fail
          go_at_call 30
          refine HW.out.mono ?_
          rintro e w5 ⟨rfl, rfl⟩
          go_wp2_with fail
          go_at_call 31
          refine HCC.out.mono ?_
          intro e w5 hp
          obtain ⟨F2, I2, rfl, hl2⟩ := HLR.out.gpost hp
          clear k0 k1 k2 k3 d0
          obtain ⟨k0, k1, k2, k3⟩ := caK_cells hl2.third
          have d0 := (Lab.st_read HYV.out hl2.swap).c0
          have hl3 := (hl2.alloc #[.int .i64 (x : Int), .int .i64 (cN : Int)] 3).drewN 1
          have happ := sapp_any (w := (w5.alloc (.cells #[.int .i64 (x : Int), .int .i64 (cN : Int)] 3)).drew) hl3.second 15 (by decide) [(x : Int), (cN : Int)] (.slice (some ⟨w5.heap.size, 0, none⟩) 2 2) (slice_of_box (xs := [(x : Int), (cN : Int)]) hl3.box1)
          rw [HG.out.1] at happ
          replace happ : Calls Tryd.prog 37 #[.pointer (some ⟨gb, 0, none⟩), .int .u8 15, .slice (some ⟨w5.heap.size, 0, none⟩) 2 2] ((w5.alloc (.cells #[.int .i64 (x : Int), .int .i64 (cN : Int)] 3)).drew) _ := happ
          have HL3 := Lib.hid hl3.swap; have HAP := Lib.hid happ
          clear hl2 hp hl3 happ
          go_upto_region 8 with fail
          go_region_held3 (fun w' => w'.cell? ⟨p, 0, none⟩ = some (.pointer (some ⟨sb, 0, none⟩)) ∧ w'.cell? ⟨p + 2, 0, none⟩ = some (.int .i64 x) ∧ w'.cell? ⟨sb, 0, none⟩ = some (.pointer (some ⟨gb, 0, none⟩))) (first | exact ⟨by assumption, by assumption, by assumption⟩ | go_keep)
            (first | (go_at_call 37; refine HAP.out.mono ?_; intro e w6 hp; obtain ⟨F3, I3, rfl, hl4⟩ := HL3.out.gpost hp; have hl5 := hl4.swap.drop; have q0 := (caK_cells hl5.third).c0; have q2 := (caK_cells hl5.third).c2; have qd := (Lab.st_read HYV.out hl5.swap).c0; have HL5 := Lib.hid hl5; clear hl4 hl5 hp))
          all_goals
            have hnum := number_any HL5.out.gr (hh : Int)
            have HNU := Lib.hid hnum
            clear hnum HL3 HAP k0 k1 k2 k3 d0
            by_cases hz : numOf L3 (hh : Int) = some 0
            · have hsk := HC.out.skip i L1 ts1 L3 hh hlt HIW.out HCI.out HG.out.2.1 HG.out.2.2.1 HG.out.2.2.2 hz
              have n1 : numD L3 (hh : Int) = 0 := by unfold numD; rw [hz]; rfl
              have n2 : isNum L3 (hh : Int) = true := by unfold isNum; rw [hz]; rfl
              rw [n1, n2] at HNU
              have HSK := Lib.hid hsk
              clear hsk n1 n2 hz
              go_wp2_with fail
              go_at_call 50
              refine HNU.out.mono ?_
              rintro e w7 ⟨rfl, hb7⟩
              have HL7 := Lib.hid (HL5.out.later hb7)
              clear hb7
              go_wp2
              exact ⟨⟨i + 1, by omega, by go_num, F3, I3, L3, ts1, HSK.out, HL7.out⟩, by simp [intOf]; omega⟩
            · have htst : isNum L3 (hh : Int) = false ∨ (isNum L3 (hh : Int) = true ∧ ((numD L3 (hh : Int) : Int) == 0) = false) := by
                cases hb : isNum L3 (hh : Int) with
                | false => exact .inl rfl
                | true => exact .inr ⟨rfl, by
                    rw [beq_eq_false_iff_ne]
                    intro h0
                    have h1 := isNum_some hb
                    have h2 : numD L3 (hh : Int) = 0 := by omega
                    rw [h2] at h1
                    exact hz h1⟩
              have HZ := Lib.hid hz
              clear hz
              obtain ⟨dn, hdn⟩ : ∃ dn, numD L3 (hh : Int) = dn := ⟨_, rfl⟩
              rw [hdn] at HNU htst
              clear hdn
              rcases htst with t1 | ⟨t1, t2⟩
              all_goals
                rw [t1] at HNU
                clear t1
                go_wp2_with fail
                go_at_call 50
                refine HNU.out.mono ?_
                rintro e w7 ⟨rfl, hb7⟩
                have hl7 := HL5.out.later hb7
                have hyv := HY.out i L1 ts1 w7 F3 I3 L3 hh hlt HIW.out HCI.out HG.out.2.1 HG.out.2.2.1 HG.out.2.2.2 HZ.out hl7
                clear hb7 hl7
                go_upto_region 13 with fail
                obtain ⟨fn, tmps, assign, body, hyy, hR⟩ := hyv
                have HR := Lib.hid hR
                clear hR
                refine (wpIn_wide (n := 1)).1 ?_
                gi_wp2
                refine HR.out.mono ?_
                rintro e w8 ⟨rfl, F4, I4, L4, ts4, hc4, hl4⟩
                have HC4 := Lib.hid hc4; have HL4 := Lib.hid hl4
                clear hc4 hl4 HR hyy
                gi_wp2
                go_wp2
                exact ⟨⟨i + 1, by omega, by go_num, F4, I4, L4, ts4, HC4.out, HL4.out⟩, by simp [intOf]; omega⟩
    · obtain rfl : i = ni := by omega
      have HLR := Lib.hid hl; have HCI := Lib.hid hci
      clear hl hci
      go_wp2
      go_end0
      exact ⟨⟨_, rfl⟩, F1, I1, L1, ts1, HCI.out, HLR.out⟩
end
end
end Go.Proofs.YtiklidgcmheofaaDoor
