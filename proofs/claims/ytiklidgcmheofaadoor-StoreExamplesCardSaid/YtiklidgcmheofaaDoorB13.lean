/- StL, StG, StC: joined by wip/bundle.py. -/
import Derived.Test.YtiklidgcmheofaaDoorB1
import Derived.Test.YtiklidgcmheofaaDoorB2
import Derived.Test.YtiklidgcmheofaaDoorB3
import Derived.Test.YtiklidgcmheofaaDoorB4
import Derived.Test.YtiklidgcmheofaaDoorB5
import Derived.Test.YtiklidgcmheofaaDoorB6
import Derived.Test.YtiklidgcmheofaaDoorB7
import Derived.Test.YtiklidgcmheofaaDoorB8
import Derived.Test.YtiklidgcmheofaaDoorB9
import Derived.Test.YtiklidgcmheofaaDoorB10
import Derived.Test.YtiklidgcmheofaaDoorB11
import Derived.Test.YtiklidgcmheofaaDoorB12
import Derived.Laws.CopyOwn
import Derived.BigQuiet
namespace Go.Proofs.YtiklidgcmheofaaDoor
open Go.RowKit Go.Maps
set_option maxHeartbeats 3200000
attribute [local go_sem] Oper.semAt_some
section
variable {w0 wr : World} {ts : List Thing} {a b c d e f g h i j k l : Thing}
theorem Lab.rot7 (x : Lab w0 wr (a :: b :: c :: d :: e :: f :: g :: ts)) : Lab w0 wr (g :: a :: b :: c :: d :: e :: f :: ts) := x.perm (List.perm_middle (l₁ := [a, b, c, d, e, f]))
theorem Lab.rot8 (x : Lab w0 wr (a :: b :: c :: d :: e :: f :: g :: h :: ts)) : Lab w0 wr (h :: a :: b :: c :: d :: e :: f :: g :: ts) := x.perm (List.perm_middle (l₁ := [a, b, c, d, e, f, g]))
theorem Lab.rot9 (x : Lab w0 wr (a :: b :: c :: d :: e :: f :: g :: h :: i :: ts)) : Lab w0 wr (i :: a :: b :: c :: d :: e :: f :: g :: h :: ts) := x.perm (List.perm_middle (l₁ := [a, b, c, d, e, f, g, h]))
theorem Lab.rot10 (x : Lab w0 wr (a :: b :: c :: d :: e :: f :: g :: h :: i :: j :: ts)) : Lab w0 wr (j :: a :: b :: c :: d :: e :: f :: g :: h :: i :: ts) := x.perm (List.perm_middle (l₁ := [a, b, c, d, e, f, g, h, i]))
theorem Lab.sink4 (x : Lab w0 wr (a :: b :: c :: d :: ts)) : Lab w0 wr (b :: c :: d :: a :: ts) := x.perm (List.perm_middle (l₁ := [b, c, d])).symm
theorem Lab.sink6 (x : Lab w0 wr (a :: b :: c :: d :: e :: f :: ts)) : Lab w0 wr (b :: c :: d :: e :: f :: a :: ts) := x.perm (List.perm_middle (l₁ := [b, c, d, e, f])).symm
theorem frozen_cellL {w : World} {b t i : Nat} {cs : Array Value} (h : w.heap[b]? = some (.cells cs t (0, 0))) : w.frozen? ⟨b, i, none⟩ = false := by
  simp [World.frozen?, h]
theorem Lab.boxc {b T : Nat} {v : Value} (h : Lab w0 wr ts) (hm : Thing.box b T #[v] ∈ ts) : wr.cell? ⟨b, 0, none⟩ = some v ∧ wr.frozen? ⟨b, 0, none⟩ = false := by
  have hb : wr.heap[b]? = some (.cells #[v] T (0, 0)) := h.holds _ hm
  exact ⟨by rw [cell_of_row wr b 0 _ _ _ hb]; rfl, by rw [frozen_cellL hb]⟩
end
theorem YieldAt.mono' {F : Fence} {n l : Nat} {P : Program} {args : Array Value} {W : World} {R R' : Ending → World → Prop} (h : YieldAt F n P l args W R) (hR : ∀ e w, R e w → R' e w) : YieldAt F n P l args W R' := by
  obtain ⟨fn, tm, ac, bo, h1, h2⟩ := h
  exact ⟨fn, tm, ac, bo, h1, h2.mono hR⟩
theorem zip2 (p q : Nat) (x y : Value) (t : Array Value) : ((#[p, q] : Array Tmp).zip #[x, y]).foldl (fun t (z : Tmp × Value) => t.setIfInBounds z.1 z.2) t = (t.setIfInBounds p x).setIfInBounds q y := by
  simp
/-- The cells of a store, in whatever world holds it. -/
theorem store_cells {w : World} {k : IntKind} {E Es T sb a : Nat} {hd : Value} {y : Lay} {regs xs : List Int} {arrs : List (List Int)} (h : (Thing.store k E Es T hd sb y regs arrs).holds w) (hy : arrs.length = y.vs.length) (ha : arrs[a]? = some xs) (hx : 1 ≤ xs.length) :
    ∃ b c b2 c2, ∀ w', (Thing.store k E Es T hd sb y regs arrs).holds w' → w'.cell? ⟨sb, 0, none⟩ = some hd ∧ w'.cell? ⟨sb, 2, none⟩ = some (.slice (some ⟨b, 0, none⟩) y.vs.length c) ∧ w'.cell? ⟨b, a, none⟩ = some (.slice (some ⟨b2, 0, none⟩) xs.length c2) ∧ w'.frozen? ⟨b, a, none⟩ = false ∧ ∀ i, i < xs.length → w'.cell? ⟨b2, i, none⟩ = some (.int k (xs.getD i 0)) := by
  have hal := (List.getElem?_eq_some_iff.1 ha).1
  have hga : arrs.getD a [] = xs := by rw [List.getD_eq_getElem?_getD, ha]; rfl
  have hin : ∀ w', (Thing.store k E Es T hd sb y regs arrs).holds w' → w'.heap[sb]? = some (.cells #[hd, y.rv, y.av] T (0, 0)) ∧ w'.ownsRow 0 Es 1 y.av y.vs.length y.vs ∧ w'.ownsRow 0 E 1 (y.vs.getD a undef) xs.length (xs.map (Value.int k)) := fun w' h' => by
    have h1 : (Thing.box sb T #[hd, y.rv, y.av]).holds w' := h'.1 _ (by simp)
    have h2 : (Thing.lists k E Es y.av y.vs arrs).holds w' := h'.1 _ (by simp)
    refine ⟨h1, h2.1 (Thing.row Es 1 y.av y.vs.length y.vs) List.mem_cons_self, ?_⟩
    have h3 := h2.1 (innerT k E y.vs arrs a) (List.mem_cons_of_mem _ (List.mem_map.2 ⟨a, List.mem_range.2 (by omega), rfl⟩))
    unfold innerT Thing.numsK at h3
    rw [hga] at h3
    exact h3
  obtain ⟨-, r1, r2⟩ := hin w h
  obtain ⟨a1, c, hav, ha1⟩ := row_shape r1
  obtain ⟨b, rfl⟩ := ha1 (by omega)
  obtain ⟨a2, c2, hiv, ha2⟩ := row_shape r2
  obtain ⟨b2, rfl⟩ := ha2 (by omega)
  refine ⟨b, c, b2, c2, fun w' h' => ?_⟩
  obtain ⟨k1, k2, k3⟩ := hin w' h'
  rw [hav] at k2
  rw [hiv] at k3
  refine ⟨?_, ?_, ?_, World.ownsRow.frozenAt k2 a, fun i hi => ?_⟩
  · rw [cell_of_row w' sb 0 _ _ _ k1]; rfl
  · rw [cell_of_row w' sb 2 _ _ _ k1, hav]; rfl
  · have := World.ownsRow.cellAt k2 a (by omega)
    rw [this, List.getElem?_eq_getElem (by omega), ← hiv, List.getD_eq_getElem?_getD, List.getElem?_eq_getElem (by omega)]; rfl
  · have := World.ownsRow.cellAt k3 i (by omega)
    rw [this, List.getElem?_map, List.getElem?_eq_getElem hi, List.getD_eq_getElem?_getD, List.getElem?_eq_getElem hi]; rfl
theorem takeD {P : Program} {ops : Array Oper} {Q : Exit → Act → World → Prop} {md : Region.Mode} {S : World → Prop} (i d : Nat) {oi : Oper} {v : Value} {fuel : Nat} {listed : Array Bool} {a : Act} {w : World} (hi : ops[i]? = some oi)
    (hs : Region.noSelect ops = true) (hf : Region.free md ops listed i = true) (hr : (Region.ready md ops listed).contains i = true) (hd : oi.dst = some d)
    (hQ : ∀ c a w, Q (.panic c) (a.put oi.dst v) w → Q (.panic c) a w) (hy : YieldsIf P ops S oi v a) (hS : S w)
    (h : wpAnyH P md ops Q S fuel (listed.setIfInBounds i true) { tmps := a.tmps.setIfInBounds d v, defers := a.defers } w) : wpAnyH P md ops Q S (fuel + 1) listed a w :=
  wpAnyH_take hi hs hf hr hQ hy hS (by rw [hd]; exact h)
def noDefer (ops : Array Oper) : Bool := ops.toList.all fun o => match o.op with | .defer _ => false | _ => true
theorem noDefer_spec {ops : Array Oper} (h : noDefer ops = true) : ∀ o ∈ ops.toList, ∀ c, o.op ≠ .defer c := fun o ho c e => by
  have := List.all_eq_true.1 h o ho
  rw [e] at this
  cases this
theorem load_results {tmps : Array Value} {b6 b7 : Nat} {w : World} {z6 z7 : Value} (t6 : tmps.getD 6 undef = .pointer (some ⟨b6, 0, none⟩)) (t7 : tmps.getD 7 undef = .pointer (some ⟨b7, 0, none⟩)) (d6 : w.cell? ⟨b6, 0, none⟩ = some z6) (d7 : w.cell? ⟨b7, 0, none⟩ = some z7) :
    (results Tryd.f14 tmps).run Tryd.prog w = .ok (.tuple #[z6, z7]) w := by
  have t6' : tmps[6]?.getD undef = .pointer (some ⟨b6, 0, none⟩) := by simpa using t6
  have t7' : tmps[7]?.getD undef = .pointer (some ⟨b7, 0, none⟩) := by simpa using t7
  unfold results
  rw [Tryd.results14]
  simp [go_sem, t6', t7', d6, d7]
section
variable {P : Program} {w0 w : World} {ts : List Thing}
/-- A return in a function that has left a loop over a function behind it. -/
theorem bodyPostM_mark {fn : Func} {R : Ending → World → Prop} {tmps : Array Value} {D : Nat} (h : Lab w0 w (Thing.obj D (.deferred (some [])) :: ts))
    (hR : ∀ w', Lab w0 w' (Thing.obj D (.deferred none) :: ts) → ∃ v, (results fn tmps).run P w' = .ok v w' ∧ R (.returned v) w') : bodyPostM Fence.wide 0 P fn R .ret { tmps := tmps, defers := [{ target := .collected D, args := #[] }] } w :=
  ⟨by simp, .inl ⟨D, _, rfl, run_takeDeferred h.obj1, hR _ (h.put_obj _)⟩⟩
end
/-- The value of the element at an index, the first k elements looked at. -/
def loadV (W : Nat) (L : List PNode) (xs : List Int) (x : Nat) (k : Nat) (vals : List Int) : Int :=
  if val W vals L x < (k : Int) then val W vals L (xs.getD (val W vals L x).toNat 0).toNat else val W vals L (xs.getD 0 0).toNat
/-- What holds of a Load under way. -/
structure LoadInv (W : Nat) (L : List PNode) (xs : List Int) (x i : Nat) (L1 : List PNode) (t : Nat) : Prop where
  got : Got W L L1 t (loadV W L xs x i)
  room : phi W L1 ≤ phi W L + 2 * i
  few : isNum L (x : Int) = true → phi W L1 ≤ phi W L
section
variable {W room n x i t : Nat} {L L1 : List PNode} {xs : List Int}
theorem loadV_zero (hok : GOk W L) (vals : List Int) : loadV W L xs x 0 vals = val W vals L (xs.getD 0 0).toNat := by
  unfold loadV
  rw [if_neg (by have := hok.word vals x; omega)]
theorem LoadInv.start (hok : GOk W L) {t : Nat} (ht : xs[0]? = some (t : Int)) (htl : t < L.length) : LoadInv W L xs x 0 L t :=
  ⟨(hok.self htl).congr fun vals => by rw [loadV_zero hok, List.getD_eq_getElem?_getD, ht]; rfl, by omega, fun _ => Nat.le_refl _⟩
theorem LoadInv.skip (_hok : GOk W L) (hx : x < L.length) (h : LoadInv W L xs x i L1 t) {L2 : List PNode} {hh : Nat} (hg : Got W L1 L2 hh (fun vals => if val W vals L1 x = (i : Int) then 1 else 0)) (hp : phi W L2 ≤ phi W L1 + 1) (hn : isNum L1 (x : Int) = true → phi W L2 ≤ phi W L1 ∧ isNum L2 (hh : Int) = true) (hz : numOf L2 (hh : Int) = some 0) : LoadInv W L xs x (i + 1) L2 t := by
  refine ⟨(h.got.keep hg.pre hg.ok).congr fun vals => ?_, by have := h.room; omega, fun hnum => ?_⟩
  · have h1 := hg.val vals
    rw [val_num hg.ok hz vals, val_prefix h.got.pre hx] at h1
    have hne : val W vals L x ≠ (i : Int) := fun e => by rw [if_pos e] at h1; cases h1
    unfold loadV
    by_cases hlt : val W vals L x < (i : Int)
    · rw [if_pos hlt, if_pos (by omega)]
    · rw [if_neg hlt, if_neg (by omega)]
  · have h1 : isNum L1 (x : Int) = true := by rw [isNum_prefix h.got.pre (by omega)]; exact hnum
    have := (hn h1).1
    have := h.few hnum
    omega
theorem LoadInv.take (hok : GOk W L) (hx : x < L.length) (h : LoadInv W L xs x i L1 t) {L2 : List PNode} {hh : Nat} (hg : Got W L1 L2 hh (fun vals => if val W vals L1 x = (i : Int) then 1 else 0)) (hp : phi W L2 ≤ phi W L1 + 1) (hn : isNum L1 (x : Int) = true → phi W L2 ≤ phi W L1 ∧ isNum L2 (hh : Int) = true) (hz : numOf L2 (hh : Int) ≠ some 0)
    {s : Nat} (hs : xs[i]? = some (s : Int)) (hsl : s < L.length) (hr : phi W L2 < room) :
    ∃ L3 u, simpR W room L2 21 [(hh : Int), (s : Int), (t : Int)] = (L3, u, 0) ∧ LoadInv W L xs x (i + 1) L3 u := by
  have hp1 := h.got.pre.trans hg.pre
  obtain ⟨L3, u, k1, k2, k3, k4⟩ := ite_step (room := room) hg.ok (h := hh) (x := s) (y := t) hg.lt (Nat.lt_of_lt_of_le hsl hp1.length_le) (Nat.lt_of_lt_of_le h.got.lt hg.pre.length_le) hr
  refine ⟨L3, u, k1, (k2.of hp1).congr fun vals => ?_, by have := h.room; omega, fun hnum => ?_⟩
  · have h1 := hg.val vals
    rw [val_prefix h.got.pre hx] at h1
    rw [h1, val_prefix hg.pre h.got.lt, h.got.val vals, val_prefix hp1 hsl]
    have hw := hok.word vals x
    unfold loadV
    by_cases e : val W vals L x = (i : Int)
    · rw [if_pos e, if_neg (by decide), if_pos (by omega), e, Int.toNat_natCast, List.getD_eq_getElem?_getD, hs]; rfl
    · rw [if_neg e, if_pos rfl]
      by_cases hlt : val W vals L x < (i : Int)
      · rw [if_pos hlt, if_pos (by omega)]
      · rw [if_neg hlt, if_neg (by omega)]
  · have h1 : isNum L1 (x : Int) = true := by rw [isNum_prefix h.got.pre (by omega)]; exact hnum
    have h2 := hn h1
    have h3 := k4 h2.2 hz
    have h4 := h.few hnum
    omega
theorem LoadInv.stop (hok : GOk W L) (h : LoadInv W L xs x i L1 t) (hi : 2 ^ W ≤ i) (hin : i ≤ n) : LoadInv W L xs x n L1 t :=
  ⟨h.got.congr fun vals => by
    have hw := hok.word vals x
    have hw2 : val W vals L x < (i : Int) := by omega
    unfold loadV
    rw [if_pos hw2, if_pos (by omega)], by have := h.room; omega, h.few⟩
end
section
variable {w0 wr w : World} {ts : List Thing} {F I : List Nat} {gb W room sb n x a : Nat} {L : List PNode} {y : Lay} {regs : List Int} {arrs : List (List Int)}
set_option maxRecDepth 100000 in
theorem Lab.sload {xs : List Int} (hy : arrs.length = y.vs.length) (ha : arrs[a]? = some xs) (hn : xs.length = n) (hn1 : 1 ≤ n) (hn64 : n ≤ 64) (hin : ∀ t ∈ xs, (0 : Int) ≤ t ∧ t < (L.length : Int)) (hok : GOk W L) (hx : x < L.length) (hr : phi W L + 2 * n < room)
    (h : Lab w0 wr (Thing.graph F I gb W room L :: Thing.gst gb sb y regs arrs :: ts)) :
    Calls Tryd.prog 14 #[.pointer (some ⟨sb, 0, none⟩), .int .i64 a, .int .i64 x] wr fun e w' => ∃ (L' : List PNode) (t : Nat) (F' I' : List Nat), e = .returned (.tuple #[.int .i64 (t : Int), .int .i64 0]) ∧ LoadInv W L xs x n L' t ∧ Lab w0 w' (Thing.graph F' I' gb W room L' :: Thing.gst gb sb y regs arrs :: ts) := by
  have hb := (((h.alloc #[.pointer (some ⟨sb, 0, none⟩)] 34).alloc #[.int .i64 (a : Int)] 3).alloc #[.int .i64 0] 3).alloc #[.int .i64 0] 31
  simp only [World.size_alloc] at hb
  obtain ⟨q, hq⟩ : ∃ q, wr.heap.size = q := ⟨_, rfl⟩
  rw [hq] at hb
  have hal := (List.getElem?_eq_some_iff.1 ha).1
  have HB := Lib.hid hb; have HY := Lib.hid hy; have HOK := Lib.hid (And.intro hok (And.intro hx hr)); have HIN := Lib.hid (And.intro ha (And.intro hn hin))
  clear hb h hok hr hin hy
  refine calls_of_marks Tryd.func14 rfl ?_
  simp only [Tryd.ntmps14, List.size_toArray, List.length_cons, List.length_nil, Nat.reduceAdd, Nat.reduceSub, Array.replicate_succ, Array.replicate_zero, List.push_toArray, List.append_toArray, List.nil_append, List.cons_append]
  go_upto_region 1 with fail
  refine wp_abs (fun wx => Lab w0 wx (Thing.box (q + 1 + 1 + 1) 31 #[.int .i64 0] :: Thing.box (q + 1 + 1) 3 #[.int .i64 0] :: Thing.box (q + 1) 3 #[.int .i64 (a : Int)] :: Thing.box q 34 #[.pointer (some ⟨sb, 0, none⟩)] :: Thing.graph F I gb W room L :: Thing.gst gb sb y regs arrs :: ts)) HB.out ?_
  intro w1 hl
  have hl2 := Lab.perm hl (ts' := Thing.graph F I gb W room L :: Thing.gst gb sb y regs arrs :: Thing.box q 34 #[.pointer (some ⟨sb, 0, none⟩)] :: Thing.box (q + 1) 3 #[.int .i64 (a : Int)] :: Thing.box (q + 1 + 1) 3 #[.int .i64 0] :: Thing.box (q + 1 + 1 + 1) 31 #[.int .i64 0] :: ts) (by
    refine List.Perm.trans (List.reverse_perm [Thing.gst gb sb y regs arrs, Thing.graph F I gb W room L, Thing.box q 34 #[.pointer (some ⟨sb, 0, none⟩)], Thing.box (q + 1) 3 #[.int .i64 (a : Int)], Thing.box (q + 1 + 1) 3 #[.int .i64 0], Thing.box (q + 1 + 1 + 1) 31 #[.int .i64 0]] |>.append_right ts) ?_
    exact List.Perm.swap _ _ _)
  have hs := Lab.st_read HY.out hl2.swap
  have hmay := smay_any hs hl2.gr (a : Int) (x : Int)
  rw [if_pos ⟨⟨by omega, by omega⟩, by omega, by omega⟩] at hmay
  obtain ⟨aa, na, ca, hav, hna, hrow⟩ := hs.arrs
  obtain ⟨b, off, xs', va, rfl, hxs', hcl, hsl⟩ := hrow a (by omega)
  obtain rfl : xs' = xs := by rw [ha] at hxs'; exact (Option.some.inj hxs').symm
  obtain ⟨ai, ni, ci, rfl, hni, hcx⟩ := hsl
  obtain rfl : ni = n := by rw [← hni, hn]
  obtain ⟨b2, off2, rfl, hx0⟩ := hcx 0 (by omega)
  have d2 := hs.c2
  rw [hav] at d2
  have k0 : w1.cell? ⟨q, 0, none⟩ = some (.pointer (some ⟨sb, 0, none⟩)) := by rw [cell_of_row w1 q 0 _ _ _ hl2.third]; rfl
  have k1 : w1.cell? ⟨q + 1, 0, none⟩ = some (.int .i64 (a : Int)) := by rw [cell_of_row w1 (q + 1) 0 _ _ _ hl2.fourth]; rfl
  have han : (a : Int) < (na : Int) := by omega
  have a0 : (0 : Int) ≤ (a : Int) := by omega
  have n0 : 0 < ni := by omega
  have HM := Lib.hid hmay; have HL2 := Lib.hid hl2
  clear hl hl2 hs hmay hrow hxs' hav hna hal ha hn hni hcx HB hq
  go_wp2_with fail
  go_at_call 34
  refine HM.out.mono ?_
  rintro e w5 ⟨rfl, rfl⟩
  obtain ⟨t0, ht0⟩ : ∃ t0 : Int, xs'.getD 0 0 = t0 := ⟨_, rfl⟩
  rw [ht0, Nat.add_zero] at hx0
  go_upto_region 4 with fail
  go_cut [9, 10] from 22 to 30 (fun s9 s10 wx => ∃ g9 g10 : Nat, s9 = .pointer (some ⟨g9, 0, none⟩) ∧ s10 = .pointer (some ⟨g10, 0, none⟩) ∧ Lab w0 wx (Thing.box g9 3 #[.int .i64 t0] :: Thing.box g10 31 #[.int .i64 0] :: Thing.graph F I gb W room L :: Thing.gst gb sb y regs arrs :: Thing.box q 34 #[.pointer (some ⟨sb, 0, none⟩)] :: Thing.box (q + 1) 3 #[.int .i64 (a : Int)] :: Thing.box (q + 1 + 1) 3 #[.int .i64 0] :: Thing.box (q + 1 + 1 + 1) 31 #[.int .i64 0] :: ts))
  case first =>
    go_region_held3 (fun w' => w'.cell? ⟨q, 0, none⟩ = some (.pointer (some ⟨sb, 0, none⟩)) ∧ w'.cell? ⟨q + 1, 0, none⟩ = some (.int .i64 (a : Int)) ∧ w'.cell? ⟨sb, 2, none⟩ = some (.slice (some ⟨b, off, none⟩) na ca) ∧ w'.cell? ⟨b, off + a, none⟩ = some (.slice (some ⟨b2, off2, none⟩) ni ci) ∧ w'.cell? ⟨b2, off2, none⟩ = some (.int .i64 t0)) (first | exact ⟨by assumption, by assumption, by assumption, by assumption, by assumption⟩ | go_keep) (fail)
    · go_wp2
      go_meet
      have h5 := (HL2.out.alloc #[.int .i64 t0] 3).alloc #[.int .i64 0] 31
      rw [World.size_alloc] at h5
      exact ⟨_, _, rfl, rfl, h5.swap.drew1⟩
    · go_wp2
      go_meet
      have h5 := (HL2.out.alloc #[.int .i64 0] 31).alloc #[.int .i64 t0] 3
      rw [World.size_alloc] at h5
      exact ⟨_, _, rfl, rfl, h5.drew1⟩
  case rest =>
    obtain ⟨g9, g10, rfl, rfl, hl5⟩ := hcut
    have HT0 := Lib.hid ht0
    clear k0 k1 d2 hcl hx0 ht0
    have k0 : wc.cell? ⟨q, 0, none⟩ = some (.pointer (some ⟨sb, 0, none⟩)) := by rw [cell_of_row wc q 0 _ _ _ hl5.fifth]; rfl
    have k1 : wc.cell? ⟨q + 1, 0, none⟩ = some (.int .i64 (a : Int)) := by rw [cell_of_row wc (q + 1) 0 _ _ _ hl5.sixth]; rfl
    have HCA := Lib.hid (Lab.cases hl5 sb a x g10)
    clear hl5
    go_wp2_with fail
    go_at_call 38
    refine HCA.out.mono ?_
    rintro e w6 ⟨p, rfl, hl6⟩
    have HL6 := Lib.hid hl6
    clear hl6 HCA
    go_wp2_with fail
    refine wp_rangeFunc_lab (Φ := fun ts' => ∃ F' I' L' t, LoadInv W L xs' x ni L' t ∧ ts' = Thing.graph F' I' gb W room L' :: Thing.gst gb sb y regs arrs :: caK p sb a x g10 :: Thing.box g9 3 #[.int .i64 (t : Int)] :: Thing.box g10 31 #[.int .i64 0] :: Thing.box q 34 #[.pointer (some ⟨sb, 0, none⟩)] :: Thing.box (q + 1) 3 #[.int .i64 (a : Int)] :: Thing.box (q + 1 + 1) 3 #[.int .i64 0] :: Thing.box (q + 1 + 1 + 1) 31 #[.int .i64 0] :: ts) (gf := 55) (lb := #[.pointer (some ⟨p, 0, none⟩), .pointer (some ⟨p + 1, 0, none⟩), .pointer (some ⟨p + 3, 0, none⟩), .pointer (some ⟨p + 2, 0, none⟩)]) (by rfl) (fun args w => by kernel_rfl) HL6.out ?_ ?_
    · intro fn l D w7 hl7
      have HIN2 := Lib.hid HIN.out
      obtain ⟨e1, e2, e3⟩ := HIN2.out
      obtain ⟨ok1, hx1, hph⟩ := HOK.out
      have hx0 : xs'[0]? = some (t0 : Int) := by
        rw [← HT0.out, List.getD_eq_getElem?_getD, List.getElem?_eq_getElem (by omega)]; rfl
      obtain ⟨tn, htn⟩ : ∃ tn : Nat, t0 = (tn : Int) := ⟨t0.toNat, by have := e3 t0 (List.mem_of_getElem? hx0); omega⟩
      subst htn
      have htl : tn < L.length := by have := e3 _ (List.mem_of_getElem? hx0); omega
      refine (cases1_lab (C := fun i L1 ts1 => ∃ t : Nat, i ≤ ni ∧ LoadInv W L xs' x i L1 t ∧ ts1 = Thing.obj l (.loop (loopRec fn _ _ _ _ D .ready none)) :: Thing.obj D (.deferred (some [])) :: Thing.box g9 3 #[.int .i64 (t : Int)] :: Thing.box g10 31 #[.int .i64 0] :: Thing.box q 34 #[.pointer (some ⟨sb, 0, none⟩)] :: Thing.box (q + 1) 3 #[.int .i64 (a : Int)] :: Thing.box (q + 1 + 1) 3 #[.int .i64 0] :: Thing.box (q + 1 + 1 + 1) 31 #[.int .i64 0] :: ts) (l := l) HY.out e1 e2 hn64 ?_ ?_ hl7.rot3.rot7.rot7 ⟨tn, Nat.zero_le _, .start ok1 hx0 htl, rfl⟩).mono ?_
      · refine ⟨?_, ?_, ?_⟩
        · rintro i L1 ts1 ⟨t, hin, hi, -⟩
          exact ⟨hi.got.ok, Nat.lt_of_lt_of_le hx1 hi.got.pre.length_le, by have := hi.room; omega⟩
        · rintro i L1 ts1 L2 h hi hiW ⟨t, -, hin, rfl⟩ hg hp hn hz
          exact ⟨t, hi, hin.skip ok1 hx1 hg hp hn hz, rfl⟩
        · rintro i L1 ts1 ⟨t, -, hin, rfl⟩ h64 hi hn
          exact ⟨t, Nat.le_refl _, hin.stop ok1 hi hn, rfl⟩
      · rintro i L1 ts1 wx F1 I1 L2 h hi hiW ⟨t, -, hin, rfl⟩ hg hp hn hz hl8
        have hl9 := hl8.rot4
        have hsI : xs'.getD i 0 = ((xs'.getD i 0).toNat : Int) := by
          have hm : xs'.getD i 0 ∈ xs' := by rw [List.getD_eq_getElem?_getD, List.getElem?_eq_getElem (by omega)]; exact List.getElem_mem _
          have := e3 _ hm
          omega
        have hsL : (xs'.getD i 0).toNat < L.length := by
          have hm : xs'.getD i 0 ∈ xs' := by rw [List.getD_eq_getElem?_getD, List.getElem?_eq_getElem (by omega)]; exact List.getElem_mem _
          have := e3 _ hm
          omega
        obtain ⟨L3, u, k1', k2'⟩ := hin.take (room := room) ok1 hx1 hg hp hn hz (s := (xs'.getD i 0).toNat) (by rw [← hsI, List.getD_eq_getElem?_getD, List.getElem?_eq_getElem (by omega)]; rfl) hsL (by have := hin.room; omega)
        have hl9 := hl8.rot4
        refine YieldAt.mono' (yield_lab (n := 0) (a1 := ?a1) (Φ := fun ts' => ∃ F2 I2 L3 u, LoadInv W L xs' x (i + 1) L3 u ∧ ts' = Thing.graph F2 I2 gb W room L3 :: Thing.gst gb sb y regs arrs :: caK p sb a x g10 :: Thing.obj D (.deferred (some [])) :: Thing.box g9 3 #[.int .i64 (u : Int)] :: Thing.box g10 31 #[.int .i64 0] :: Thing.box q 34 #[.pointer (some ⟨sb, 0, none⟩)] :: Thing.box (q + 1) 3 #[.int .i64 (a : Int)] :: Thing.box (q + 1 + 1) 3 #[.int .i64 0] :: Thing.box (q + 1 + 1 + 1) 31 #[.int .i64 0] :: ts) hl9 rfl ?hassign ?hbody) ?hout
        case hassign =>
          intro W9 K hK
          rw [zip2]
          simp only [List.setIfInBounds_toArray, List.set_cons_zero, List.set_cons_succ]
          gi_wp2
          exact hK
        case hbody =>
          intro W9 hl10
          obtain ⟨k0, -⟩ := hl10.boxc (b := q) (T := 34) (v := .pointer (some ⟨sb, 0, none⟩)) (by simp)
          obtain ⟨k1, -⟩ := hl10.boxc (b := q + 1) (T := 3) (v := .int .i64 (a : Int)) (by simp)
          obtain ⟨c9, -⟩ := hl10.boxc (b := g9) (T := 3) (v := .int .i64 (t : Int)) (by simp)
          have hal := (List.getElem?_eq_some_iff.1 e1).1
          obtain ⟨b', c', b2', c2', hcs⟩ := store_cells (h := hl10.third) HY.out e1 (by omega)
          obtain ⟨d0, d2, hcl', -, hx'⟩ := hcs W9 hl10.third
          have hxi := hx' i (by omega)
          rw [e2] at hcl'
          obtain ⟨na', hna'⟩ : ∃ na', y.vs.length = na' := ⟨_, rfl⟩
          have hyo := HY.out
          rw [hna'] at d2
          rw [show xs'.getD i 0 = ((xs'.getD i 0).toNat : Int) from hsI] at hxi
          obtain ⟨s, hs'⟩ : ∃ s, (xs'.getD i 0).toNat = s := ⟨_, rfl⟩
          rw [hs'] at hxi k1'
          have han' : (a : Int) < (na' : Int) := by omega
          have i1 : (i : Int) < (ni : Int) := by omega
          have i0 : (0 : Int) ≤ (i : Int) := by omega
          have hl11 := (hl10.swap.alloc #[.int .i64 (h : Int), .int .i64 (s : Int), .int .i64 (t : Int)] 3)
          have HB := Lib.hid hl10; have HK := Lib.hid (And.intro k1' k2')
          have HCS := Lib.hid (And.intro hcs (And.intro hna' (And.intro e2 (And.intro hsI hs'))))
          have HS0 := And.intro k0 (And.intro k1 (And.intro d0 (And.intro d2 (And.intro hcl' (And.intro hxi c9)))))
          clear k1' k2' hal hl11 hl10 hcs hna' hyo hx' hs'
          gi_wp2
          refine region_round (by kernel_rfl) (noDefer_spec (by kernel_rfl)) (fun ⟨_, _, h⟩ => by cases (show Exit.outgrown = Exit.normal ∧ _ from h).1) (wpAny_of_held (S := fun w' => w'.cell? ⟨q, 0, none⟩ = some (.pointer (some ⟨sb, 0, none⟩)) ∧ w'.cell? ⟨q + 1, 0, none⟩ = some (.int .i64 (a : Int)) ∧ w'.cell? ⟨sb, 0, none⟩ = some (.pointer (some ⟨gb, 0, none⟩)) ∧ w'.cell? ⟨sb, 2, none⟩ = some (.slice (some ⟨b', 0, none⟩) na' c') ∧ w'.cell? ⟨b', a, none⟩ = some (.slice (some ⟨b2', 0, none⟩) ni c2') ∧ w'.cell? ⟨b2', i, none⟩ = some (.int .i64 (s : Int)) ∧ w'.cell? ⟨g9, 0, none⟩ = some (.int .i64 (t : Int))) _ _ _ _ ?_)
          have hS := HS0
          clear HS0
          refine takeD 0 38 (v := ?v0) rfl (by kernel_rfl) (by kernel_rfl) (by kernel_rfl) rfl (fun _ _ _ h => h) (Or.inl ⟨by rfl, ?hy0⟩) hS ?_
          case hy0 =>
            intro w hSw
            try dsimp only at hSw
            go_simp
            with_reducible rfl
          simp only [List.setIfInBounds_toArray, List.set_cons_zero, List.set_cons_succ]
          refine takeD 1 39 (v := ?v1) rfl (by kernel_rfl) (by kernel_rfl) (by kernel_rfl) rfl (fun _ _ _ h => h) (Or.inl ⟨by rfl, ?hy1⟩) hS ?_
          case hy1 =>
            intro w hSw
            try dsimp only at hSw
            go_simp
            with_reducible rfl
          simp only [List.setIfInBounds_toArray, List.set_cons_zero, List.set_cons_succ]
          refine takeD 2 40 (v := ?v2) rfl (by kernel_rfl) (by kernel_rfl) (by kernel_rfl) rfl (fun _ _ _ h => h) (Or.inl ⟨by rfl, ?hy2⟩) hS ?_
          case hy2 =>
            intro w hSw
            try dsimp only at hSw
            go_simp
            with_reducible rfl
          simp only [List.setIfInBounds_toArray, List.set_cons_zero, List.set_cons_succ]
          refine takeD 3 41 (v := ?v3) rfl (by kernel_rfl) (by kernel_rfl) (by kernel_rfl) rfl (fun _ _ _ h => h) (Or.inl ⟨by rfl, ?hy3⟩) hS ?_
          case hy3 =>
            intro w hSw
            try dsimp only at hSw
            go_simp
            with_reducible rfl
          simp only [List.setIfInBounds_toArray, List.set_cons_zero, List.set_cons_succ]
          refine takeD 4 42 (v := ?v4) rfl (by kernel_rfl) (by kernel_rfl) (by kernel_rfl) rfl (fun _ _ _ h => h) (Or.inl ⟨by rfl, ?hy4⟩) hS ?_
          case hy4 =>
            intro w hSw
            try dsimp only at hSw
            go_simp
            with_reducible rfl
          simp only [List.setIfInBounds_toArray, List.set_cons_zero, List.set_cons_succ]
          refine takeD 5 43 (v := ?v5) rfl (by kernel_rfl) (by kernel_rfl) (by kernel_rfl) rfl (fun _ _ _ h => h) (Or.inl ⟨by rfl, ?hy5⟩) hS ?_
          case hy5 =>
            intro w hSw
            try dsimp only at hSw
            go_simp
            with_reducible rfl
          simp only [List.setIfInBounds_toArray, List.set_cons_zero, List.set_cons_succ]
          refine takeD 6 44 (v := ?v6) rfl (by kernel_rfl) (by kernel_rfl) (by kernel_rfl) rfl (fun _ _ _ h => h) (Or.inl ⟨by rfl, ?hy6⟩) hS ?_
          case hy6 =>
            intro w hSw
            try dsimp only at hSw
            go_simp
            with_reducible rfl
          simp only [List.setIfInBounds_toArray, List.set_cons_zero, List.set_cons_succ]
          refine takeD 7 45 (v := ?v7) rfl (by kernel_rfl) (by kernel_rfl) (by kernel_rfl) rfl (fun _ _ _ h => h) (Or.inl ⟨by rfl, ?hy7⟩) hS ?_
          case hy7 =>
            intro w hSw
            try dsimp only at hSw
            go_simp
            with_reducible rfl
          simp only [List.setIfInBounds_toArray, List.set_cons_zero, List.set_cons_succ]
          refine takeD 8 46 (v := ?v8) rfl (by kernel_rfl) (by kernel_rfl) (by kernel_rfl) rfl (fun _ _ _ h => h) (Or.inl ⟨by rfl, ?hy8⟩) hS ?_
          case hy8 =>
            intro w hSw
            try dsimp only at hSw
            go_simp
            with_reducible rfl
          simp only [List.setIfInBounds_toArray, List.set_cons_zero, List.set_cons_succ]
          refine takeD 9 47 (v := ?v9) rfl (by kernel_rfl) (by kernel_rfl) (by kernel_rfl) rfl (fun _ _ _ h => h) (Or.inl ⟨by rfl, ?hy9⟩) hS ?_
          case hy9 =>
            intro w hSw
            try dsimp only at hSw
            go_simp
            with_reducible rfl
          simp only [List.setIfInBounds_toArray, List.set_cons_zero, List.set_cons_succ]
          refine takeD 10 48 (v := ?v10) rfl (by kernel_rfl) (by kernel_rfl) (by kernel_rfl) rfl (fun _ _ _ h => h) (Or.inl ⟨by rfl, ?hy10⟩) hS ?_
          case hy10 =>
            intro w hSw
            try dsimp only at hSw
            go_simp
            with_reducible rfl
          simp only [List.setIfInBounds_toArray, List.set_cons_zero, List.set_cons_succ]
          refine takeD 11 49 (v := ?v11) rfl (by kernel_rfl) (by kernel_rfl) (by kernel_rfl) rfl (fun _ _ _ h => h) (Or.inl ⟨by rfl, ?hy11⟩) hS ?_
          case hy11 =>
            intro w hSw
            try dsimp only at hSw
            go_simp
            with_reducible rfl
          simp only [List.setIfInBounds_toArray, List.set_cons_zero, List.set_cons_succ]
          refine takeD 12 50 (v := ?v12) rfl (by kernel_rfl) (by kernel_rfl) (by kernel_rfl) rfl (fun _ _ _ h => h) (Or.inl ⟨by rfl, ?hy12⟩) hS ?_
          case hy12 =>
            intro w hSw
            try dsimp only at hSw
            go_simp
            with_reducible rfl
          simp only [List.setIfInBounds_toArray, List.set_cons_zero, List.set_cons_succ]
          refine takeD 13 51 (v := ?v13) rfl (by kernel_rfl) (by kernel_rfl) (by kernel_rfl) rfl (fun _ _ _ h => h) (Or.inl ⟨by rfl, ?hy13⟩) hS ?_
          case hy13 =>
            intro w hSw
            try dsimp only at hSw
            go_simp
            with_reducible rfl
          simp only [List.setIfInBounds_toArray, List.set_cons_zero, List.set_cons_succ]
          refine takeD 14 52 (v := ?v14) rfl (by kernel_rfl) (by kernel_rfl) (by kernel_rfl) rfl (fun _ _ _ h => h) (Or.inl ⟨by rfl, ?hy14⟩) hS ?_
          case hy14 =>
            intro w hSw
            try dsimp only at hSw
            go_simp
            with_reducible rfl
          simp only [List.setIfInBounds_toArray, List.set_cons_zero, List.set_cons_succ]
          refine takeD 15 53 (v := ?v15) rfl (by kernel_rfl) (by kernel_rfl) (by kernel_rfl) rfl (fun _ _ _ h => h) (Or.inl ⟨by rfl, ?hy15⟩) hS ?_
          case hy15 =>
            intro w hSw
            try dsimp only at hSw
            go_simp
            with_reducible rfl
          simp only [List.setIfInBounds_toArray, List.set_cons_zero, List.set_cons_succ]
          refine wpAnyH_ready (rs := [16]) (by kernel_rfl) (by simp) ?_
          refine AllReadyH.cons rfl (fun K hK => ?_) AllReadyH.nil
          go_simp
          have hb9 := below_drewN (below_new W9 (.cells #[.int .i64 (h : Int), .int .i64 (s : Int), .int .i64 (t : Int)] 3)) 1
          refine hK.out _ _ ⟨cell_later hb9 hS.1, cell_later hb9 hS.2.1, cell_later hb9 hS.2.2.1, cell_later hb9 hS.2.2.2.1, cell_later hb9 hS.2.2.2.2.1, cell_later hb9 hS.2.2.2.2.2.1, cell_later hb9 hS.2.2.2.2.2.2⟩ (fun hHeld => ?_)
          clear hK K hS
          have hl11 := ((HB.out.swap.alloc #[.int .i64 (h : Int), .int .i64 (s : Int), .int .i64 (t : Int)] 3).drewN 1).swap
          have happ := sapp_any hl11.gr 21 (by decide) [(h : Int), (s : Int), (t : Int)] (.slice (some ⟨W9.heap.size, 0, none⟩) 3 3) (slice_of_box (xs := [(h : Int), (s : Int), (t : Int)]) hl11.box2)
          rw [HK.out.1] at happ
          have HL11 := Lib.hid hl11; have HAP := Lib.hid happ
          clear hl11 happ hb9
          refine wpAnyH_ready (rs := [17]) (by kernel_rfl) (by simp) ?_
          refine AllReadyH.cons rfl (fun K hK => ?_) AllReadyH.nil
          go_simp
          go_at_call 37
          refine HAP.out.mono ?_
          intro e w10 hp
          obtain ⟨F3, I3, rfl, hl12⟩ := HL11.out.gpost hp
          have hl13 := hl12.swap.drop
          obtain ⟨k0', -⟩ := hl13.boxc (b := q) (T := 34) (v := .pointer (some ⟨sb, 0, none⟩)) (by simp)
          obtain ⟨k1', -⟩ := hl13.boxc (b := q + 1) (T := 3) (v := .int .i64 (a : Int)) (by simp)
          obtain ⟨c9', -⟩ := hl13.boxc (b := g9) (T := 3) (v := .int .i64 (t : Int)) (by simp)
          obtain ⟨d0', d2', hcl'', -, hx''⟩ := HCS.out.1 w10 hl13.third
          have hxi' := hx'' i (by rw [HCS.out.2.2.1]; exact hi)
          rw [HCS.out.2.2.1] at hcl''
          rw [HCS.out.2.1] at d2'
          rw [HCS.out.2.2.2.1, HCS.out.2.2.2.2] at hxi'
          have HL13 := Lib.hid hl13
          clear hl12 hl13 hx'' hp
          go_simp
          refine hK.out _ _ ⟨k0', k1', d0', d2', hcl'', hxi', c9'⟩ (fun hS => ?_)
          clear hK K
          clear k0' k1' d0' d2' hcl'' hxi' c9'
          refine takeD 18 37 (v := ?v18) rfl (by kernel_rfl) (by kernel_rfl) (by kernel_rfl) rfl (fun _ _ _ h => h) (Or.inl ⟨by rfl, ?hy18⟩) hS ?_
          case hy18 =>
            intro w hSw
            clear hSw
            go_simp
            with_reducible rfl
          simp only [List.setIfInBounds_toArray, List.set_cons_zero, List.set_cons_succ]
          refine takeD 19 56 (v := ?v19) rfl (by kernel_rfl) (by kernel_rfl) (by kernel_rfl) rfl (fun _ _ _ h => h) (Or.inl ⟨by rfl, ?hy19⟩) hS ?_
          case hy19 =>
            intro w hSw
            clear hSw
            go_simp
            with_reducible rfl
          simp only [List.setIfInBounds_toArray, List.set_cons_zero, List.set_cons_succ]
          refine takeD 20 57 (v := ?v20) rfl (by kernel_rfl) (by kernel_rfl) (by kernel_rfl) rfl (fun _ _ _ h => h) (Or.inl ⟨by rfl, ?hy20⟩) hS ?_
          case hy20 =>
            intro w hSw
            clear hSw
            go_simp
            with_reducible rfl
          simp only [List.setIfInBounds_toArray, List.set_cons_zero, List.set_cons_succ]
          refine takeD 21 13 (v := ?v21) rfl (by kernel_rfl) (by kernel_rfl) (by kernel_rfl) rfl (fun _ _ _ h => h) (Or.inl ⟨by rfl, ?hy21⟩) hS ?_
          case hy21 =>
            intro w hSw
            clear hSw
            go_simp
            with_reducible rfl
          simp only [List.setIfInBounds_toArray, List.set_cons_zero, List.set_cons_succ]
          refine takeD 22 14 (v := ?v22) rfl (by kernel_rfl) (by kernel_rfl) (by kernel_rfl) rfl (fun _ _ _ h => h) (Or.inl ⟨by rfl, ?hy22⟩) hS ?_
          case hy22 =>
            intro w hSw
            clear hSw
            go_simp
            with_reducible rfl
          simp only [List.setIfInBounds_toArray, List.set_cons_zero, List.set_cons_succ]
          refine wpAnyH_done (by kernel_rfl) ?_ _
          clear hS
          obtain ⟨c9', f9'⟩ := HL13.out.boxc (b := g9) (T := 3) (v := .int .i64 (t : Int)) (by simp)
          go_step
          gi_wp2
          refine ⟨_, ⟨F3, I3, L3, u, HK.out.2, rfl⟩, ?_⟩
          exact (HL13.out.rot6.store 0 (.int .i64 (u : Int))).sink6.swap
        case hout =>
          rintro e w9 ⟨rfl, ts', ⟨F2, I2, L3, u, hin3, rfl⟩, hl10⟩
          exact ⟨rfl, F2, I2, L3, _, ⟨u, hi, hin3, rfl⟩, hl10.sink4⟩
      · rintro e w8 ⟨he, F2, I2, L3, ts2, ⟨t, -, hin, rfl⟩, hl8⟩
        exact ⟨he, _, ⟨F2, I2, L3, t, hin, rfl⟩, hl8.rot5.rot5⟩
    · rintro D w7 ts' ⟨F', I', L', t, hinv, rfl⟩ hl7
      have HL7 := Lib.hid hl7; have HI := Lib.hid hinv
      obtain ⟨c10, -⟩ := hl7.boxc (b := g10) (T := 31) (v := .int .i64 0) (by simp)
      obtain ⟨c9, -⟩ := hl7.boxc (b := g9) (T := 3) (v := .int .i64 (t : Int)) (by simp)
      obtain ⟨c6, f6⟩ := hl7.boxc (b := q + 1 + 1) (T := 3) (v := .int .i64 0) (by simp)
      obtain ⟨c7, f7⟩ := hl7.boxc (b := q + 1 + 1 + 1) (T := 31) (v := .int .i64 0) (by simp)
      clear hl7 hinv
      go_wp2
      have h9 : Lab w0 _ (Thing.box (q + 1 + 1 + 1) 31 #[.int .i64 0] :: Thing.box (q + 1 + 1) 3 #[.int .i64 (t : Int)] :: _) := ((HL7.out.rot9.store 0 (.int .i64 (t : Int))).rot10.store 0 (.int .i64 0))
      refine bodyPostM_mark (D := D) h9.rot3 fun w8 hl8 => ?_
      obtain ⟨d6, -⟩ := hl8.boxc (b := q + 1 + 1) (T := 3) (v := .int .i64 (t : Int)) (by simp)
      obtain ⟨d7, -⟩ := hl8.boxc (b := q + 1 + 1 + 1) (T := 31) (v := .int .i64 0) (by simp)
      refine ⟨_, load_results rfl rfl d6 d7, L', t, F', I', rfl, HI.out, hl8.subl (.cons _ (.cons _ (.cons _ (.cons_cons _ (.cons_cons _ (.cons _ (.cons _ (.cons _ (.cons _ (.cons _ (List.Sublist.refl _)))))))))))⟩
end
end Go.Proofs.YtiklidgcmheofaaDoor
namespace Go.Proofs.YtiklidgcmheofaaDoor
open Go.RowKit Go.Maps
set_option maxHeartbeats 3200000
section
variable {w0 wr w : World} {ts : List Thing} {F I : List Nat} {gb W room bb sb rb nR : Nat} {L : List PNode} {y z : Lay} {regs rregs vals sizes : List Int} {arrs rarrs : List (List Int)} {v1 v2 v3 v4 vv : Value}
/-- An element is loaded at a number. -/
theorem load_val {L0 L1 L2 : List PNode} {xs us : List Int} {t t2 k : Nat} (hr : RelL W vals L0 xs us) (hp : L0 <+: L1) (hk : k < us.length) (ht : ∀ vals, val W vals L1 t = (k : Int)) (h : LoadInv W L1 xs t us.length L2 t2) : us[k]? = some (val W vals L2 t2) := by
  obtain ⟨u, h1, h2, h3⟩ := hr.2 k hk
  rw [h.got.val vals, h3]
  unfold loadV
  rw [ht vals, if_pos (by omega), Int.toNat_natCast, List.getD_eq_getElem?_getD, h1]
  show some (val W vals L0 u) = some (val W vals L1 (u : Int).toNat)
  rw [Int.toNat_natCast, val_prefix hp h2]
set_option maxRecDepth 100000 in
theorem Lab.bsame (hI : BothIn w0 W nR sizes vals v3 vv) (hb : BothOk W vals nR sizes L regs rregs arrs rarrs) (hy : arrs.length = y.vs.length) (hz : rarrs.length = z.vs.length) (hph : phi W L + 20 < room)
    (h : Lab w0 wr (bothTs F I gb W room L bb sb rb nR y z regs rregs arrs rarrs v1 v2 v3 v4 vv ts)) :
    Calls Tryd.prog 17 #[.pointer (some ⟨bb, 0, none⟩)] wr fun e w' => ∃ (L' : List PNode) (F' I' : List Nat), e = .returned (.bool true) ∧ L <+: L' ∧ GOk W L' ∧ phi W L' ≤ phi W L ∧ Lab w0 w' (bothTs F' I' gb W room L' bb sb rb nR y z regs rregs arrs rarrs v1 v2 v3 v4 vv ts) := by
  obtain ⟨a3, na, c3, rfl, hna, hsz⟩ := hI.sz
  have hR1 := hI.R1; have hR2 := hI.R2
  have hna2 : na ≤ 4 := by have := hI.A2; omega
  have HI := Lib.hid hI; have HB := Lib.hid hb; have HY := Lib.hid (And.intro hy (And.intro hz hph)); have HL := Lib.hid h; have HS := Lib.hid (And.intro hna hsz)
  clear hI hb hy hz hph h hna hsz
  go_enter Tryd.func17, Tryd.ntmps17
  go_wp2
  go_loopw [3] (fun v wx => ∃ i : Nat, i ≤ nR ∧ v = .int .i64 i ∧ Lab w0 wx (bothTs F I gb W room L bb sb rb nR y z regs rregs arrs rarrs v1 v2 (.slice a3 na c3) v4 vv ts)) (fun v _ => nR - (intOf v).toNat)
  case atStart => exact ⟨0, Nat.zero_le _, rfl, HL.out⟩
  case round =>
    clear HL
    obtain ⟨i, hi, rfl, hl⟩ := hrel
    obtain ⟨-, -, -, -, c4, -, -⟩ := both_cells hl.fourth
    by_cases hlt : i < nR
    · have hlt' : (i : Int) < (nR : Int) := by omega
      obtain ⟨t, v, -, -, -, -, hreg⟩ := Lab.breg HI.out.vl HI.out.nvals HI.out.u64 hl HY.out.1 HY.out.2.1 HB.out.regs HB.out.nregs hR1 (by omega) i (by omega)
      have wi : IntKind.u8.wrap (i : Int) = (i : Int) := by rw [IntKind.wrap_u8]; omega
      have HREG := Lib.hid hreg; have HL := Lib.hid hl
      clear hreg hl
      go_wp2_with fail
      go_at_call 41
      refine HREG.out.mono ?_
      rintro e w5 ⟨rfl, hb5⟩
      have HL5 := Lib.hid (HL.out.later hb5)
      clear hb5 HL HREG c4
      go_wp2
      go_roundw
      case rel => exact ⟨i + 1, by omega, by go_num, HL5.out⟩
      case measure => simp [intOf]; omega
    · obtain rfl : nR = i := by omega
      have HL := Lib.hid hl
      clear hl
      go_wp2
      clear c4
      go_loopw [7] (fun v wx => ∃ a : Nat, a ≤ na ∧ v = .int .i64 a ∧ ∃ F1 I1 L1, L <+: L1 ∧ GOk W L1 ∧ phi W L1 ≤ phi W L ∧ Lab w0 wx (bothTs F1 I1 gb W room L1 bb sb rb nR y z regs rregs arrs rarrs v1 v2 (.slice a3 na c3) v4 vv ts)) (fun v _ => na - (intOf v).toNat)
      case atStart => exact ⟨0, Nat.zero_le _, rfl, F, I, L, List.prefix_refl _, HB.out.ok, Nat.le_refl _, HL.out⟩
      case round =>
        clear HL
        obtain ⟨a, ha, rfl, F0, I0, L0, hp0, hok0, hph0, hl0⟩ := hrel
        obtain ⟨-, -, -, -, -, c7, -⟩ := both_cells hl0.fourth
        by_cases hlta : a < na
        · have hlta' : (a : Int) < (na : Int) := by omega
          have a0 : (0 : Int) ≤ (a : Int) := by omega
          obtain ⟨xs, us, hxs, hus, hrel, hsize⟩ := HB.out.arrs.each a (by have := HS.out.1; omega)
          obtain ⟨n, hn⟩ : ∃ n, us.length = n := ⟨_, rfl⟩
          rw [hn] at hsize
          have hn8 := HI.out.each _ (List.mem_of_getElem? hsize)
          have hn1 : 1 ≤ n := by omega
          have hn2 : n ≤ 8 := by omega
          obtain ⟨b3, off3, rfl, hcs⟩ := HS.out.2 a hlta
          rw [List.getD_eq_getElem?_getD, hsize] at hcs
          replace hcs : w0.cell? ⟨b3, off3 + a, none⟩ = some (.int .i64 (n : Int)) := hcs
          have HR := Lib.hid (And.intro hxs (And.intro hus (And.intro hrel (And.intro hn hcs)))); have HL0 := Lib.hid (And.intro hp0 (And.intro hok0 (And.intro hph0 hl0)))
          clear hxs hus hrel hn hsize hn8 hcs hp0 hok0 hph0 hl0
          go_wp2
          clear c7
          go_loopw [8] (fun v wx => ∃ k : Nat, k ≤ n ∧ v = .int .i64 k ∧ ∃ F1 I1 L1, L <+: L1 ∧ GOk W L1 ∧ phi W L1 ≤ phi W L ∧ Lab w0 wx (bothTs F1 I1 gb W room L1 bb sb rb nR y z regs rregs arrs rarrs v1 v2 (.slice (some ⟨b3, off3, none⟩) na c3) v4 vv ts)) (fun v _ => n - (intOf v).toNat)
          case atStart => exact ⟨0, Nat.zero_le _, rfl, F0, I0, L0, HL0.out.1, HL0.out.2.1, HL0.out.2.2.1, HL0.out.2.2.2⟩
          case round =>
            clear HL0
            obtain ⟨k, hk, rfl, F1, I1, L1, hp1, hok1, hph1, hl1⟩ := hrel
            obtain ⟨c0, c1, c2, -, -, c7, -⟩ := both_cells hl1.fourth
            have cs := cell_later hl1.below HR.out.2.2.2.2
            by_cases hltk : k < n
            · have hltk' : (k : Int) < (n : Int) := by omega
              have k0 : (0 : Int) ≤ (k : Int) := by omega
              have wk : IntKind.u64.wrap (k : Int) = (k : Int) := by rw [wrap_u64_nat, Nat.mod_eq_of_lt (by omega)]
              have r0 := (Lab.st_read HY.out.2.1 hl1.rot3).c0
              have htr := rtrim30 r0 hok1.w1 hok1.w2 k (by omega)
              obtain ⟨m, hm⟩ : ∃ m, k % 2 ^ W = m := ⟨_, rfl⟩
              rw [hm] at htr
              have HT := Lib.hid htr
              clear htr
              by_cases hkm : m = k
              · subst hkm
                obtain ⟨L2, t, hg2, -, hph2, hnum2, hnm⟩ := Lab.bnumber HI.out.vl HI.out.nvals HI.out.u64 hl1 HY.out.1 HY.out.2.1 hok1 (by have := HY.out.2.2; omega) m (by omega)
                have HNM := Lib.hid hnm; have HG2 := Lib.hid (And.intro hg2 (And.intro (hph2 (by omega)) (And.intro hnum2 hm))); have HL1 := Lib.hid (And.intro hp1 (And.intro hok1 hph1))
                clear hnm hg2 hph2 hnum2 hm hp1 hok1 hph1 hl1
                go_wp2_with fail
                go_at_call 20
                refine HT.out.mono ?_
                rintro e w5 ⟨rfl, rfl⟩
                go_wp2_with fail
                go_at_call 18
                refine HNM.out.mono ?_
                rintro e w5 ⟨F2, I2, rfl, hl2⟩
                clear c0 c1 c2 c7 cs r0 HNM HT
                obtain ⟨c0, c1, c2, -, -, c7, -⟩ := both_cells hl2.fourth
                have hp2 := HL1.out.1.trans HG2.out.1.pre
                have hld := Lab.sload (x := t) HY.out.1 HR.out.1 (by rw [HR.out.2.2.1.1]; exact HR.out.2.2.2.1) hn1 (by omega) (fun e he => by
                  have h1 := HR.out.2.2.1.mem e he
                  have h2 := hp2.length_le
                  omega) HG2.out.1.ok HG2.out.1.lt (by have := HY.out.2.2; have := HG2.out.2.1; have := HL1.out.2.2; omega) hl2
                have HLD := Lib.hid hld
                clear hld hl2
                go_wp2_with fail
                go_at_call 14
                refine HLD.out.mono ?_
                rintro e w6 ⟨L3, t3, F3, I3, rfl, hinv, hl3⟩
                replace hl3 : Lab w0 w6 (bothTs F3 I3 gb W room L3 bb sb rb nR y z regs rregs arrs rarrs v1 v2 (.slice (some ⟨b3, off3, none⟩) na c3) v4 vv ts) := hl3
                clear c0 c1 c2 c7 HLD
                obtain ⟨c0, c1, c2, -, -, c7, -⟩ := both_cells hl3.fourth
                obtain ⟨b', cc, b2', cc2, hcs'⟩ := store_cells (h := hl3.third) HY.out.2.1 HR.out.2.1 (by rw [HR.out.2.2.2.1]; exact hn1)
                obtain ⟨-, r2, r3, -, r4⟩ := hcs' w6 hl3.third
                have r4m := r4 m (by rw [HR.out.2.2.2.1]; exact hltk)
                have hlv := load_val HR.out.2.2.1 hp2 (by rw [HR.out.2.2.2.1]; exact hltk) (fun vs => by rw [HG2.out.1.val vs, HG2.out.2.2.2]) (by rw [HR.out.2.2.2.1]; exact hinv)
                rw [List.getD_eq_getElem?_getD, hlv] at r4m
                replace r4m : w6.cell? ⟨b2', m, none⟩ = some (.int .u64 (val W vals L3 t3)) := r4m
                rw [HR.out.2.2.2.1] at r3
                have his := Lab.bis HI.out.vl HI.out.nvals HI.out.u64 hl3 t3 hinv.got.lt (val W vals L3 t3)
                rw [decide_eq_true rfl] at his
                obtain ⟨vx, hvx⟩ : ∃ vx, val W vals L3 t3 = vx := ⟨_, rfl⟩
                rw [hvx] at his r4m
                obtain ⟨nz, hnz⟩ : ∃ nz, z.vs.length = nz := ⟨_, rfl⟩
                rw [hnz] at r2
                have haz : (a : Int) < (nz : Int) := by have := (List.getElem?_eq_some_iff.1 HR.out.2.1).1; have := HY.out.2.1; omega
                have HIS := Lib.hid his; have HL3 := Lib.hid (And.intro hinv hl3); have HP2 := Lib.hid hp2
                clear his hinv hl3 r4 hcs' hlv hvx hnz hp2
                go_wp2_with fail
                go_at_call 26
                refine HIS.out.mono ?_
                rintro e w7 ⟨rfl, hb7⟩
                have HL7 := Lib.hid (HL3.out.2.later hb7)
                clear hb7 c0 c1 c2 c7 r2 r3 r4m HIS
                go_wp2
                go_roundw
                case rel => exact ⟨m + 1, by omega, by go_num, F3, I3, L3, HP2.out.trans HL3.out.1.got.pre, HL3.out.1.got.ok, by have h1 := HL3.out.1.few (by unfold isNum; rw [HG2.out.2.2.1]; rfl); have := HG2.out.2.1; have := HL1.out.2.2; omega, HL7.out⟩
                case measure => simp [intOf]; omega
              · have g1 : ((m : Int) != (k : Int)) = true := by rw [bne_iff_ne]; omega
                have HL1 := Lib.hid (And.intro hp1 (And.intro hok1 (And.intro hph1 hl1)))
                clear hp1 hok1 hph1 hl1 hkm hm
                go_wp2_with fail
                go_at_call 20
                refine HT.out.mono ?_
                rintro e w5 ⟨rfl, rfl⟩
                go_wp2
                go_roundw
                case rel => exact ⟨k + 1, by omega, by go_num, F1, I1, L1, HL1.out.1, HL1.out.2.1, HL1.out.2.2.1, HL1.out.2.2.2⟩
                case measure => simp [intOf]; omega
            · obtain rfl : k = n := by omega
              have HL1 := Lib.hid (And.intro hp1 (And.intro hok1 (And.intro hph1 hl1)))
              clear hp1 hok1 hph1 hl1
              go_wp2
              go_roundw
              case rel => exact ⟨a + 1, by omega, by go_num, F1, I1, L1, HL1.out.1, HL1.out.2.1, HL1.out.2.2.1, HL1.out.2.2.2⟩
              case measure => simp [intOf]; omega
        · obtain rfl : a = na := by omega
          have HL0 := Lib.hid (And.intro hp0 (And.intro hok0 (And.intro hph0 hl0)))
          clear hp0 hok0 hph0 hl0
          go_wp2
          go_ret
          exact ⟨L0, F0, I0, rfl, HL0.out.1, HL0.out.2.1, HL0.out.2.2.1, HL0.out.2.2.2⟩
end
end Go.Proofs.YtiklidgcmheofaaDoor
namespace Go.Proofs.YtiklidgcmheofaaDoor
open Go.RowKit Go.Maps
set_option maxHeartbeats 3200000
section
variable {w0 wr : World} {ts : List Thing} {k : IntKind} {E g n c : Nat} {xs zs : List Int} {v : Value}
theorem Lab.copy_row (h : Lab w0 wr (Thing.numsK k E (.slice (some ⟨g, 0, none⟩) n c) zs :: ts)) (hz : zs.length = n) (hs : SliceOf wr k v xs) (hx : xs.length = n) (hn : 1 ≤ n) (T ty : Nat) (ht : Tryd.prog.underlying T = some (.slice E)) (hsz : (Tryd.prog.info? E).map (·.size) = some 1) :
    ∃ w', (Builtin.copy_ #[T, T] ty #[.slice (some ⟨g, 0, none⟩) n c, v]).run Tryd.prog wr = .ok (.int .i64 n) w' ∧ Lab w0 w' (Thing.numsK k E (.slice (some ⟨g, 0, none⟩) n c) xs :: ts) := by
  unfold Thing.numsK at h
  rw [hz] at h
  have hh := h.head
  obtain ⟨h1, h2⟩ := hh
  rcases h2 with ⟨e, h0⟩ | ⟨g', cap2, cur, e, -, hg, hnc, hcm, hcs, hct⟩
  · omega
  · simp only [Value.slice.injEq, Option.some.injEq, Addr.mk.injEq, and_true, true_and] at e
    obtain ⟨rfl, rfl⟩ := e
    rw [Nat.mul_one] at hcs hct
    obtain ⟨a', c', rfl, -, hsrc⟩ := hs.src
    obtain ⟨ad, rfl, hsr⟩ := hsrc (by omega)
    have hcl : (xs.map (Value.int k)).length = n := by rw [List.length_map]; exact hx
    have hrun := run_copy_row (P := Tryd.prog) wr T T ty E g 0 n c ad xs.length c' cur E (xs.map (Value.int k)) ht hsz hg (by rw [hcl, hx]; exact (Nat.min_self n).symm) hsr (by rw [hcl]; omega) (fun v hv => by
      obtain ⟨x, -, rfl⟩ := List.mem_map.1 hv
      rfl)
    rw [hcl, hx] at hrun
    rw [hx]
    refine ⟨_, hrun, ?_⟩
    unfold Thing.numsK
    rw [hx, List.take_zero, List.nil_append, Nat.zero_add]
    obtain ⟨ncur, hncur⟩ : ∃ ncur, xs.map (Value.int k) ++ cur.toList.drop n = ncur := ⟨_, rfl⟩
    rw [hncur]
    have hnl : ncur.length = c := by rw [← hncur, List.length_append, List.length_drop, hcl, Array.length_toList]; omega
    have htk : ncur.take n = xs.map (Value.int k) := by rw [← hncur, List.take_append_of_le_length (by omega), List.take_of_length_le (by omega)]
    have hown : (wr.setRow g ncur.toArray).ownsRow 0 E 1 (.slice (some ⟨g, 0, none⟩) n c) n (xs.map (Value.int k)) :=
      ⟨by rw [hcl, Nat.mul_one], .inr ⟨g, c, ncur.toArray, rfl, Nat.zero_le _, setRow_heap wr g _ _ _ _ hg, hnc, hcm, by simp [hnl], by rw [Nat.mul_one]; exact htk⟩⟩
    exact h.turn (s' := Thing.row E 1 (.slice (some ⟨g, 0, none⟩) n c) n (xs.map (Value.int k))) ⟨rfl, rfl, rfl, by rw [size_setRow]; exact Nat.le_refl _, fun k hk hn => setRow_other wr g k _ (by simpa [Thing.row, Value.ownBlock] using hn)⟩ hown (fun k hk => .inl hk) (fun k hk => by simp [Thing.row] at hk) (fun k hk => by
      rcases hk with hk | hk
      · exact (World.ownsRow.lt hown k (by simpa [Thing.row] using hk)).2
      · simp [Thing.row] at hk)
/-- A number of a row of one's own is set. -/
theorem Lab.numsK_set (h : Lab w0 wr (Thing.numsK k E (.slice (some ⟨g, 0, none⟩) n c) xs :: ts)) (hx : xs.length = n) (j : Nat) (u : Int) : Lab w0 (wr.setCell ⟨g, j, none⟩ (.int k u)) (Thing.numsK k E (.slice (some ⟨g, 0, none⟩) n c) (xs.set j u) :: ts) := by
  unfold Thing.numsK at h ⊢
  rw [hx] at h
  rw [List.length_set, hx, List.map_set]
  exact Lab.row_set h j (.int k u)
theorem Lab.numsK_cell (h : Lab w0 wr (Thing.numsK k E (.slice (some ⟨g, 0, none⟩) n c) xs :: ts)) (hx : xs.length = n) {j : Nat} {u : Int} (hu : xs[j]? = some u) : wr.cell? ⟨g, j, none⟩ = some (.int k u) ∧ wr.frozen? ⟨g, j, none⟩ = false := by
  unfold Thing.numsK at h
  rw [hx] at h
  have hj := (List.getElem?_eq_some_iff.1 hu).1
  refine ⟨?_, World.ownsRow.frozenAt h.head j⟩
  have := World.ownsRow.cellAt h.head j (by omega)
  rw [this, List.getElem?_map, hu]; rfl
end
section
variable {w0 wr : World} {ts : List Thing} {F I : List Nat} {gb W room sb n i hh u t b4 b7 b11 g c : Nat} {L L3 : List PNode} {y : Lay} {regs ys : List Int} {arrs : List (List Int)} {yv : Int}
/-- set, the closure of Put. -/
theorem Lab.put1 (hy : arrs.length = y.vs.length) (hR : simpR W room L 21 [(hh : Int), (t : Int), yv] = (L3, u, 0)) (hyi : ys[i]? = some yv) (hyl : ys.length = n)
    (h : Lab w0 wr (Thing.graph F I gb W room L :: Thing.gst gb sb y regs arrs :: Thing.box b4 34 #[.pointer (some ⟨sb, 0, none⟩)] :: Thing.box b7 3 #[.int .i64 (t : Int)] :: Thing.box b11 23 #[.slice (some ⟨g, 0, none⟩) n c] :: Thing.numsK .i64 3 (.slice (some ⟨g, 0, none⟩) n c) ys :: ts)) :
    Calls Tryd.prog 36 #[.int .i64 i, .int .i64 hh, .pointer (some ⟨b4, 0, none⟩), .pointer (some ⟨b7, 0, none⟩), .pointer (some ⟨b11, 0, none⟩)] wr fun e w' => ∃ F' I', e = .returned (.int .i64 0) ∧
      Lab w0 w' (Thing.graph F' I' gb W room L3 :: Thing.gst gb sb y regs arrs :: Thing.box b4 34 #[.pointer (some ⟨sb, 0, none⟩)] :: Thing.box b7 3 #[.int .i64 (t : Int)] :: Thing.box b11 23 #[.slice (some ⟨g, 0, none⟩) n c] :: Thing.numsK .i64 3 (.slice (some ⟨g, 0, none⟩) n c) (ys.set i (u : Int)) :: ts) := by
  have hil := (List.getElem?_eq_some_iff.1 hyi).1
  have c4 := (h.boxc (b := b4) (T := 34) (v := .pointer (some ⟨sb, 0, none⟩)) (by simp)).1
  have c7 := (h.boxc (b := b7) (T := 3) (v := .int .i64 (t : Int)) (by simp)).1
  have c11 := (h.boxc (b := b11) (T := 23) (v := .slice (some ⟨g, 0, none⟩) n c) (by simp)).1
  have d0 := (Lab.st_read hy h.swap).c0
  have cy := (h.rot6.numsK_cell hyl hyi).1
  have i1 : (i : Int) < (n : Int) := by omega
  have i0 : (0 : Int) ≤ (i : Int) := by omega
  have hl1 := ((h.swap.alloc #[.int .i64 (hh : Int), .int .i64 (t : Int), .int .i64 yv] 3).rot3.drewN 1)
  have happ := sapp_any hl1.gr 21 (by decide) [(hh : Int), (t : Int), yv] (.slice (some ⟨wr.heap.size, 0, none⟩) 3 3) (slice_of_box (xs := [(hh : Int), (t : Int), yv]) hl1.box2)
  rw [hR] at happ
  have HL1 := Lib.hid hl1; have HAP := Lib.hid happ; have HY := Lib.hid (And.intro hy (And.intro hyi hyl))
  clear h hl1 happ hy hyi hyl hil hR
  go_enter Tryd.func36, Tryd.ntmps36
  go_upto_region 1 with fail
  go_region_held3 (fun w' => w'.cell? ⟨b4, 0, none⟩ = some (.pointer (some ⟨sb, 0, none⟩)) ∧ w'.cell? ⟨b7, 0, none⟩ = some (.int .i64 (t : Int)) ∧ w'.cell? ⟨b11, 0, none⟩ = some (.slice (some ⟨g, 0, none⟩) n c) ∧ w'.cell? ⟨sb, 0, none⟩ = some (.pointer (some ⟨gb, 0, none⟩)) ∧ w'.cell? ⟨g, i, none⟩ = some (.int .i64 yv)) (first | exact ⟨by assumption, by assumption, by assumption, by assumption, by assumption⟩ | go_keep)
    (first | (go_at_call 37; refine HAP.out.mono ?_; intro e w6 hp; obtain ⟨F3, I3, rfl, hl4⟩ := HL1.out.gpost hp; have hl5 := hl4.swap.drop; have q4 := (hl5.boxc (b := b4) (T := 34) (v := .pointer (some ⟨sb, 0, none⟩)) (by simp)).1; have q7 := (hl5.boxc (b := b7) (T := 3) (v := .int .i64 (t : Int)) (by simp)).1; have q11 := (hl5.boxc (b := b11) (T := 23) (v := .slice (some ⟨g, 0, none⟩) n c) (by simp)).1; have q0 := (Lab.st_read HY.out.1 hl5.swap).c0; have qy := (hl5.rot6.numsK_cell HY.out.2.2 HY.out.2.1).1; have HL5 := Lib.hid hl5; clear hl4 hl5 hp))
  all_goals
    obtain ⟨-, fy⟩ := HL5.out.rot6.numsK_cell HY.out.2.2 HY.out.2.1
    clear c4 c7 c11 d0 cy
    go_wp2
    go_ret
    exact ⟨F3, I3, rfl, (HL5.out.rot6.numsK_set HY.out.2.2 i (u : Int)).sink6⟩
end
end Go.Proofs.YtiklidgcmheofaaDoor
