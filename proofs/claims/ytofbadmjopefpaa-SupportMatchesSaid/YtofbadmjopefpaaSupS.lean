/- slices.Sort at []int, by the library's contract. The table of numbers and its theorem are written by the kit's lay-plain. -/
import Derived.Test.YtofbadmjopefpaaSupA
import Derived.Ground.NamesProg
import Derived.Shelf.Sort.Plain
import Derived.Shelf.Slices.In.SortNone
import Derived.Lib.SortBridge
import Derived.Sort.OwnSortedInts
namespace Go.Proofs
open Go.Shelf
def Try.laysSort_ren : Go.Shelf.Ren := ⟨fun | 189 => 33 | 125 => 45 | 257 => 44 | 128 => 65 | 129 => 66 | 294 => 56 | 295 => 57 | 296 => 58 | 297 => 59 | 298 => 60 | 299 => 61 | 216 => 62 | 300 => 63 | 301 => 64 | 328 => 71 | 329 => 72 | 330 => 73 | 331 => 74 | 332 => 75 | 215 => 76 | 343 => 94 | n => n, fun | 28 => 26 | 3 => 3 | 46 => 98 | 0 => 0 | 51 => 121 | 53 => 42 | 4 => 4 | 183 => 114 | 182 => 113 | 131 => 111 | 5 => 5 | 9 => 9 | 218 => 132 | 222 => 135 | 228 => 138 | 229 => 139 | n => n, fun | n => n⟩
theorem Try.laysSort : Go.Proofs.Lays.n189 Try.prog Try.laysSort_ren := {
  mixed := by kernel_rfl
  f125 := Try.func45.trans (congrArg some (by kernel_rfl))
  f128 := Try.func65.trans (congrArg some (by kernel_rfl))
  f129 := Try.func66.trans (congrArg some (by kernel_rfl))
  f189 := Try.func33.trans (congrArg some (by kernel_rfl))
  f215 := Try.func76.trans (congrArg some (by kernel_rfl))
  f216 := Try.func62.trans (congrArg some (by kernel_rfl))
  f257 := Try.func44.trans (congrArg some (by kernel_rfl))
  f294 := Try.func56.trans (congrArg some (by kernel_rfl))
  f295 := Try.func57.trans (congrArg some (by kernel_rfl))
  f296 := Try.func58.trans (congrArg some (by kernel_rfl))
  f297 := Try.func59.trans (congrArg some (by kernel_rfl))
  f298 := Try.func60.trans (congrArg some (by kernel_rfl))
  f299 := Try.func61.trans (congrArg some (by kernel_rfl))
  f300 := Try.func63.trans (congrArg some (by kernel_rfl))
  f301 := Try.func64.trans (congrArg some (by kernel_rfl))
  f328 := Try.func71.trans (congrArg some (by kernel_rfl))
  f329 := Try.func72.trans (congrArg some (by kernel_rfl))
  f330 := Try.func73.trans (congrArg some (by kernel_rfl))
  f331 := Try.func74.trans (congrArg some (by kernel_rfl))
  f332 := Try.func75.trans (congrArg some (by kernel_rfl))
  f343 := Try.func94.trans (congrArg some (by kernel_rfl))
  t0 := Try.underlying0
  a0 := Try.isAgg0
  z0 := Try.sizeOf0
  v0 := Try.zeroValue0
  t3 := Try.underlying3
  a3 := Try.isAgg3
  z3 := Try.sizeOf3
  v3 := Try.zeroValue3
  t4 := Try.underlying4
  a4 := Try.isAgg4
  z4 := Try.sizeOf4
  v4 := Try.zeroValue4
  t5 := Try.underlying5
  a5 := Try.isAgg5
  z5 := Try.sizeOf5
  v5 := Try.zeroValue5
  t9 := Try.underlying9
  a9 := Try.isAgg9
  z9 := Try.sizeOf9
  v9 := Try.zeroValue9
  t28 := Try.underlying26
  a28 := Try.isAgg26
  z28 := Try.sizeOf26
  v28 := Try.zeroValue26
  t46 := Try.underlying98
  a46 := Try.isAgg98
  z46 := Try.sizeOf98
  v46 := Try.zeroValue98
  t51 := Try.underlying121
  a51 := Try.isAgg121
  z51 := Try.sizeOf121
  v51 := Try.zeroValue121
  t53 := Try.underlying42
  a53 := Try.isAgg42
  z53 := Try.sizeOf42
  v53 := Try.zeroValue42
  t131 := Try.underlying111
  a131 := Try.isAgg111
  z131 := Try.sizeOf111
  v131 := Try.zeroValue111
  t182 := Try.underlying113
  a182 := Try.isAgg113
  z182 := Try.sizeOf113
  v182 := Try.zeroValue113
  t183 := Try.underlying114
  a183 := Try.isAgg114
  z183 := Try.sizeOf114
  v183 := Try.zeroValue114
  t218 := Try.underlying132
  a218 := Try.isAgg132
  z218 := Try.sizeOf132
  v218 := Try.zeroValue132
  t222 := Try.underlying135
  a222 := Try.isAgg135
  z222 := Try.sizeOf135
  v222 := Try.zeroValue135
  t228 := Try.underlying138
  a228 := Try.isAgg138
  z228 := Try.sizeOf138
  v228 := Try.zeroValue138
  t229 := Try.underlying139
  a229 := Try.isAgg139
  z229 := Try.sizeOf139
  v229 := Try.zeroValue139 }
end Go.Proofs
namespace Go.Proofs.Ytofbadmjopefpaa
open Go.RowKit Go.Maps
set_option maxHeartbeats 3200000

section
variable {w0 wr w' : World} {ts : List Thing}
theorem setCells_keeps (b : Nat) : ∀ (vs : List Value) (o : Nat) (w : World), (w.setCells b o vs).os = w.os ∧ (w.setCells b o vs).tape = w.tape ∧ (w.setCells b o vs).output = w.output ∧ (w.setCells b o vs).heap.size = w.heap.size ∧ ∀ k, k ≠ b → (w.setCells b o vs).heap[k]? = w.heap[k]?
  | [], _, _ => ⟨rfl, rfl, rfl, rfl, fun _ _ => rfl⟩
  | v :: vs, o, w => by
    obtain ⟨h1, h2, h3, h4, h5⟩ := setCells_keeps b vs (o + 1) (w.setCell ⟨b, o, none⟩ v)
    exact ⟨h1, h2, h3, h4.trans (World.size_setCell _ _ _), fun k hk => (h5 k hk).trans (heap_setCell_other _ _ _ _ (by simpa using hk))⟩
theorem sort_lab {a : Option Addr} {c : Nat} {xs : List Int} (h : Lab w0 wr (Thing.ints (.slice a xs.length c) xs :: ts)) (hn : xs.length ≤ 1000000000) :
    Calls Try.prog 33 #[.slice a xs.length c] wr fun e w' => e = .returned (.tuple #[]) ∧ Lab w0 w' (Thing.ints (.slice a xs.length c) (xs.mergeSort leI) :: ts) := by
  by_cases hx : xs = []
  · subst hx
    refine (Any.slices_Sort_int_none Try.laysSort a c wr).mono ?_
    rintro e w2 ⟨rfl, rfl⟩
    exact ⟨rfl, by simpa using h⟩
  · obtain ⟨g, cap, e⟩ := own_some' h.ints hx
    simp only [Value.slice.injEq] at e
    obtain ⟨rfl, -, rfl⟩ := e
    have hsl : SliceOf wr .i64 (.slice (some ⟨g, 0, none⟩) xs.length c) xs := OwnInts.slice h.ints
    have hH := Go.Lib.holds_of_ints (w := wr) (b := g) (off := 0) (n := xs.length) (zs := xs) (Nat.le_refl _) (fun j hj => by
      rw [hsl.at (List.getElem?_eq_getElem hj), List.getD_eq_getElem?_getD, List.getElem?_eq_getElem hj]; rfl) (fun j hj => by
      rw [Nat.zero_add]
      exact World.ownsRow.frozenAt h.ints j)
    rw [List.take_length] at hH
    have hlt : g < wr.heap.size := (World.ownsRow.lt h.ints g rfl).2
    refine (Any.slices_Sort_int Try.laysSort g 0 c xs wr hH hlt (by omega)).mono ?_
    rintro e w2 ⟨rfl, q, os, rfl⟩
    refine ⟨rfl, ?_⟩
    obtain ⟨h1, h2⟩ := h.ints
    rcases h2 with ⟨e, -⟩ | ⟨g', cap', cur, e, -, hg, hnc, hcm, hcs, -⟩
    · simp at e
    · simp only [Value.slice.injEq, Option.some.injEq, Addr.mk.injEq, and_true, true_and] at e
      obtain ⟨rfl, rfl⟩ := e
      have hlen : (xs.mergeSort leI).length = xs.length := by simp
      have hown := ownsRow_sortedI (base := 0) (n := q) (os := os) (ss := xs) (ts := xs.mergeSort leI) hlen (Nat.zero_le _) hg hnc hcm hcs
      have hown2 : OwnInts (Go.Sort.grow (Go.Sort.putRow (Value.int .i64) (Go.Sort.ahead wr q) g 0 (xs.mergeSort leI).toArray) os) 0 3 .i64 (.slice (some ⟨g, 0, none⟩) xs.length c) (xs.mergeSort leI) := by
        unfold OwnInts
        rw [hlen]
        exact hown
      have hw := Go.Lib.sorted_world (Value.int .i64) wr g 0 q _ (xs.mergeSort leI) os hH (by simp)
      obtain ⟨k1, k2, k3, k4, k5⟩ := setCells_keeps g ((xs.mergeSort leI).map (Value.int .i64)) 0 (wr.drewN q)
      have ht : Touch [g] wr (Go.Sort.grow (Go.Sort.putRow (Value.int .i64) (Go.Sort.ahead wr q) g 0 (xs.mergeSort leI).toArray) os) := by
        rw [hw]
        refine ⟨k1, k2, k3, ?_, fun k hk hn => ?_⟩
        · show wr.heap.size ≤ (_ ++ os).size
          rw [Array.size_append]
          have : ((wr.drewN q).setCells g 0 ((xs.mergeSort leI).map (Value.int .i64))).heap.size = wr.heap.size := k4
          omega
        · show (((wr.drewN q).setCells g 0 ((xs.mergeSort leI).map (Value.int .i64))).heap ++ os)[k]? = _
          have hsz : ((wr.drewN q).setCells g 0 ((xs.mergeSort leI).map (Value.int .i64))).heap.size = wr.heap.size := k4
          rw [Array.getElem?_append_left (by omega)]
          exact k5 k (by simpa using hn)
      exact h.turn (s' := Thing.ints (.slice (some ⟨g, 0, none⟩) xs.length c) (xs.mergeSort leI)) ht hown2 (fun k hk => .inl hk) (fun k hk => by simp [Thing.ints, Thing.row] at hk) (fun k hk => by
        rcases hk with hk | hk
        · exact (World.ownsRow.lt hown2 k (by simpa [Thing.ints, Thing.row] using hk)).2
        · simp [Thing.ints, Thing.row] at hk)
end
end Go.Proofs.Ytofbadmjopefpaa
