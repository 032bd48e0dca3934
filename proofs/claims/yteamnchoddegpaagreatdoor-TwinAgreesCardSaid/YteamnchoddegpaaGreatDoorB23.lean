/- TwAgR, TwTerm, TwAgL, TwAgM: joined by wip/bundle.py. -/
import Derived.Test.YteamnchoddegpaaGreatDoorB1
import Derived.Test.YteamnchoddegpaaGreatDoorB2
import Derived.Test.YteamnchoddegpaaGreatDoorB3
import Derived.Test.YteamnchoddegpaaGreatDoorB4
import Derived.Test.YteamnchoddegpaaGreatDoorB5
import Derived.Test.YteamnchoddegpaaGreatDoorB6
import Derived.Test.YteamnchoddegpaaGreatDoorB7
import Derived.Test.YteamnchoddegpaaGreatDoorB8
import Derived.Test.YteamnchoddegpaaGreatDoorB9
import Derived.Test.YteamnchoddegpaaGreatDoorB10
import Derived.Test.YteamnchoddegpaaGreatDoorB11
import Derived.Test.YteamnchoddegpaaGreatDoorB12
import Derived.Test.YteamnchoddegpaaGreatDoorB13
import Derived.Test.YteamnchoddegpaaGreatDoorB14
import Derived.Test.YteamnchoddegpaaGreatDoorB15
import Derived.Test.YteamnchoddegpaaGreatDoorB16
import Derived.Test.YteamnchoddegpaaGreatDoorB17
import Derived.Test.YteamnchoddegpaaGreatDoorB18
import Derived.Test.YteamnchoddegpaaGreatDoorB19
import Derived.Test.YteamnchoddegpaaGreatDoorB20
import Derived.Test.YteamnchoddegpaaGreatDoorB21
import Derived.Test.YteamnchoddegpaaGreatDoorB22
import Derived.WalkMore
import Derived.BigQuiet
namespace Go.Proofs.YteamnchoddegpaaGreatDoor
open Go.RowKit Go.Maps
set_option maxHeartbeats 3200000
def RawN.cells (r : RawN) : List Value := [.int .u8 r.kind, .int .u8 r.op, .int .u64 r.num, .int .u16 r.a, .int .u16 r.b]
def rawCells : List RawN → List Value
  | [] => []
  | r :: rs => r.cells ++ rawCells rs
theorem rawCells_len : ∀ rs : List RawN, (rawCells rs).length = rs.length * 5
  | [] => rfl
  | r :: rs => by
    show (r.cells ++ rawCells rs).length = _
    rw [List.length_append, rawCells_len rs, List.length_cons]
    show 5 + rs.length * 5 = _
    omega
theorem rawCells_at {r : RawN} : ∀ {rs : List RawN} {i k : Nat}, rs[i]? = some r → k < 5 → (rawCells rs)[i * 5 + k]? = r.cells[k]?
  | [], i, k, h, _ => by cases h
  | s :: rs, 0, k, h, hk => by
    simp only [List.getElem?_cons_zero, Option.some.injEq] at h
    subst h
    show (s.cells ++ rawCells rs)[0 * 5 + k]? = _
    rw [Nat.zero_mul, Nat.zero_add, List.getElem?_append_left (show k < 5 from hk)]
  | s :: rs, i + 1, k, h, hk => by
    simp only [List.getElem?_cons_succ] at h
    show (s.cells ++ rawCells rs)[(i + 1) * 5 + k]? = _
    rw [List.getElem?_append_right (show 5 ≤ (i + 1) * 5 + k by omega), show (i + 1) * 5 + k - s.cells.length = i * 5 + k by show (i + 1) * 5 + k - 5 = _; omega]
    exact rawCells_at h hk
theorem rawCells_set {r : RawN} (x : Nat) : ∀ {rs : List RawN} {i : Nat}, rs[i]? = some r → (rawCells rs).set (i * 5 + 3) (.int .u16 x) = rawCells (rs.set i { r with a := x })
  | [], i, h => by cases h
  | s :: rs, 0, h => by
    simp only [List.getElem?_cons_zero, Option.some.injEq] at h
    subst h
    rfl
  | s :: rs, i + 1, h => by
    simp only [List.getElem?_cons_succ] at h
    show (s.cells ++ rawCells rs).set ((i + 1) * 5 + 3) _ = s.cells ++ rawCells (rs.set i _)
    rw [List.set_append_right _ _ (show 5 ≤ (i + 1) * 5 + 3 by omega), show (i + 1) * 5 + 3 - s.cells.length = i * 5 + 3 by show (i + 1) * 5 + 3 - 5 = _; omega, rawCells_set x h]
theorem rawCells_one {rs : List RawN} : ∀ u ∈ rawCells rs, u.oneCell' = true := by
  induction rs with
  | nil => intro u hu; cases hu
  | cons r rs ih =>
    intro u hu
    rcases List.mem_append.1 (show u ∈ r.cells ++ rawCells rs from hu) with h | h
    · simp only [RawN.cells, List.mem_cons, List.not_mem_nil, or_false] at h
      rcases h with rfl | rfl | rfl | rfl | rfl <;> rfl
    · exact ih u h
theorem RawsOf.src {w : World} {v : Value} {rs : List RawN} (h : RawsOf w v rs) : SrcOf w v rs.length 5 (rawCells rs) := by
  obtain ⟨a, n, c, rfl, rfl, hc⟩ := h
  refine ⟨a, c, rfl, rawCells_len rs, fun h0 => ?_⟩
  obtain ⟨b, off, r0, rfl, -⟩ := hc 0 h0
  refine ⟨_, rfl, fun j u hu => ?_⟩
  have hj := (List.getElem?_eq_some_iff.1 hu).1
  rw [rawCells_len] at hj
  have hd := Nat.div_add_mod j 5
  have hk : j % 5 < 5 := Nat.mod_lt _ (by decide)
  obtain ⟨b', off', r, e, hx, -, c0, c1, c2, c3, c4⟩ := hc (j / 5) (by omega)
  simp only [Option.some.injEq, Addr.mk.injEq, and_true] at e
  obtain ⟨rfl, rfl⟩ := e
  obtain ⟨i, hi⟩ : ∃ i, j / 5 = i := ⟨_, rfl⟩
  obtain ⟨k, hk'⟩ : ∃ k, j % 5 = k := ⟨_, rfl⟩
  rw [hi] at hx c0 c1 c2 c3 c4 hd
  rw [hk'] at hk hd
  obtain rfl : j = i * 5 + k := by omega
  rw [rawCells_at hx hk] at hu
  rw [Go.WideShapes.add_plain]
  have h5 : k = 0 ∨ k = 1 ∨ k = 2 ∨ k = 3 ∨ k = 4 := by omega
  rcases h5 with rfl | rfl | rfl | rfl | rfl <;> simp only [RawN.cells, List.getElem?_cons_zero, List.getElem?_cons_succ, Option.some.injEq] at hu <;> subst hu
  · exact c0
  · exact c1
  · exact c2
  · exact c3
  · exact c4
section
variable {w0 wr : World} {ts : List Thing} {g n cap : Nat} {rs : List RawN}
/-- Raw nodes of one's own. -/
def Thing.raws (v : Value) (rs : List RawN) : Thing := Thing.row 53 5 v rs.length (rawCells rs)
theorem Lab.raws_cell (hn : rs.length = n) (h : Lab w0 wr (Thing.raws (.slice (some ⟨g, 0, none⟩) n cap) rs :: ts)) {i k : Nat} {r : RawN} (hr : rs[i]? = some r) (hk : k < 5) : wr.cell? ⟨g, i * 5 + k, none⟩ = r.cells[k]? ∧ wr.frozen? ⟨g, i * 5 + k, none⟩ = false := by
  subst hn
  have h' : wr.ownsRow 0 53 5 (.slice (some ⟨g, 0, none⟩) rs.length cap) rs.length (rawCells rs) := h.head
  have hi := (List.getElem?_eq_some_iff.1 hr).1
  exact ⟨by rw [World.ownsRow.cellAt h' _ (by omega), rawCells_at hr hk], World.ownsRow.frozenAt h' _⟩
theorem Lab.raws_set (hn : rs.length = n) (h : Lab w0 wr (Thing.raws (.slice (some ⟨g, 0, none⟩) n cap) rs :: ts)) {i : Nat} {r : RawN} (hr : rs[i]? = some r) (x : Nat) : Lab w0 (wr.setCell ⟨g, i * 5 + 3, none⟩ (.int .u16 x)) (Thing.raws (.slice (some ⟨g, 0, none⟩) n cap) (rs.set i { r with a := x }) :: ts) := by
  subst hn
  have h' : wr.ownsRow 0 53 5 (.slice (some ⟨g, 0, none⟩) rs.length cap) rs.length (rawCells rs) := h.head
  have hs := World.ownsRow.stored h' (i * 5 + 3) (.int .u16 x)
  rw [rawCells_set x hr] at hs
  unfold Thing.raws
  rw [List.length_set]
  refine h.turn (s' := Thing.row 53 5 (.slice (some ⟨g, 0, none⟩) rs.length cap) rs.length (rawCells (rs.set i { r with a := x }))) ⟨rfl, rfl, rfl, by rw [World.size_setCell]; exact Nat.le_refl _, fun k hk hn => heap_setCell_other _ _ _ _ (by simpa [Thing.raws, Thing.row, Value.ownBlock] using hn)⟩ hs.1 (fun k hk => .inl hk) (fun k hk => .inl hk) (fun k hk => ?_)
  rw [World.size_setCell]
  exact h.high (Thing.raws (.slice (some ⟨g, 0, none⟩) rs.length cap) rs) (by simp) k hk
theorem Lab.raws_read {v : Value} (h : Lab w0 wr (Thing.raws v rs :: ts)) (hok : ∀ r ∈ rs, r.Ok) : RawsOf wr v rs := by
  have h' : wr.ownsRow 0 53 5 v rs.length (rawCells rs) := h.head
  rcases h'.2 with ⟨rfl, h0⟩ | ⟨g, cap, cur, rfl, -⟩
  · rw [List.length_eq_zero_iff.1 h0]
    exact RawsOf.nil _
  · refine ⟨_, _, _, rfl, rfl, fun i hi => ?_⟩
    have hr : rs[i]? = some rs[i] := List.getElem?_eq_getElem hi
    have hc := fun k hk => (Lab.raws_cell rfl h (i := i) (k := k) hr hk).1
    refine ⟨g, 0, rs[i], rfl, hr, hok _ (List.getElem_mem _), ?_, ?_, ?_, ?_, ?_⟩
    · rw [Nat.zero_add]; exact hc 0 (by decide)
    · rw [Nat.zero_add]; exact hc 1 (by decide)
    · rw [Nat.zero_add]; exact hc 2 (by decide)
    · rw [Nat.zero_add]; exact hc 3 (by decide)
    · rw [Nat.zero_add]; exact hc 4 (by decide)
theorem Tryz.infoRaw : ∃ z, (Tryz.prog.info? 53).map (fun i => (i.zero, i.size, i.bytes)) = some (some z, 5, 24) ∧ z.cells.size = 5 := ⟨.agg #[.int .u8 0, .int .u8 0, .int .u64 0, .int .u16 0, .int .u16 0], by kernel_rfl, rfl⟩
/-- append([]Raw(nil), l...). -/
theorem wpList_append_raws {ops : Array Oper} {rest : List Oper} {o : Oper} {a : Act} {Q : Exit → Act → World → Prop} {xv : Value} (x : Operand) (h : Lab w0 wr ts) (hsrc : RawsOf wr xv rs) (hgd : o.guard = none)
    (ho : o.op = .call { callee := .builtin .append, args := #[.const (.slice none 0 0), x], argTypes := #[22, 22] }) (hx : a.eval x = xv) (hl : rs.length = n) (hn : n ≤ 1000000000) (h0 : 0 < n)
    (hK : ∀ g c' w', Lab w0 w' (Thing.raws (.slice (some ⟨g, 0, none⟩) n c') rs :: ts) → wpList Tryz.prog ops Q rest (a.put o.dst (.slice (some ⟨g, 0, none⟩) n c')) w') : wpList Tryz.prog ops Q (o :: rest) a wr := by
  subst hl
  obtain ⟨z, hz, hz5⟩ := Tryz.infoRaw
  refine wpList_append_src 22 53 5 24 wr.heap.size wr (.slice none 0 0) xv 0 rs.length [] (rawCells rs) (World.ownsRow_nil _ _ _ _) hsrc.src _ x hgd ho z Tryz.underlying22 hz hz5 (by decide) (by decide) rfl hx rawCells_one (by omega) (Nat.le_refl _) ?_
  intro v' w' h2 h3
  rw [Nat.zero_add, List.nil_append] at h2
  have hb : Below wr.heap.size wr w' := ⟨h3.os, h3.tape, h3.output, h3.size, fun k hk => h3.block k hk (by simp [Value.ownBlock])⟩
  have hl := h.new_row hb h2
  rcases h2.2 with ⟨-, h0'⟩ | ⟨g, cap, cur, rfl, -⟩
  · omega
  · exact hK g cap w' hl
end
end Go.Proofs.YteamnchoddegpaaGreatDoor
namespace Go.Proofs.YteamnchoddegpaaGreatDoor
open Go.RowKit Go.Maps
set_option maxHeartbeats 3200000
/-- What Term's function value holds by reference. -/
def twK (p5 p6 p7 p8 gb lb : Nat) (level : Int) (chv : Value) : Thing := Thing.bundle [Thing.box p5 32 #[.pointer (some ⟨gb, 0, none⟩)], Thing.box p6 28 #[.pointer (some ⟨lb, 0, none⟩)], Thing.box p7 3 #[.int .i64 level], Thing.box p8 24 #[chv]]
structure TwC (p5 p6 p7 p8 gb lb : Nat) (level : Int) (chv : Value) (w : World) : Prop where
  c5 : w.cell? ⟨p5, 0, none⟩ = some (.pointer (some ⟨gb, 0, none⟩))
  c6 : w.cell? ⟨p6, 0, none⟩ = some (.pointer (some ⟨lb, 0, none⟩))
  c7 : w.cell? ⟨p7, 0, none⟩ = some (.int .i64 level)
  c8 : w.cell? ⟨p8, 0, none⟩ = some chv
theorem twK_cells {p5 p6 p7 p8 gb lb : Nat} {level : Int} {chv : Value} {w : World} (h : (twK p5 p6 p7 p8 gb lb level chv).holds w) : TwC p5 p6 p7 p8 gb lb level chv w := by
  have g : ∀ b T x, Thing.box b T #[x] ∈ [Thing.box p5 32 #[.pointer (some ⟨gb, 0, none⟩)], Thing.box p6 28 #[.pointer (some ⟨lb, 0, none⟩)], Thing.box p7 3 #[.int .i64 level], Thing.box p8 24 #[chv]] → w.cell? ⟨b, 0, none⟩ = some x := fun b T x hm => by
    rw [cell_of_row w b 0 _ _ _ (h.1 _ hm)]; rfl
  exact ⟨g p5 32 _ (by simp), g p6 28 _ (by simp), g p7 3 _ (by simp), g p8 24 _ (by simp)⟩
theorem TwC.later {p5 p6 p7 p8 gb lb : Nat} {level : Int} {chv : Value} {w w' : World} (h : TwC p5 p6 p7 p8 gb lb level chv w) (hb : Below w.heap.size w w') : TwC p5 p6 p7 p8 gb lb level chv w' :=
  ⟨cell_later hb h.c5, cell_later hb h.c6, cell_later hb h.c7, cell_later hb h.c8⟩
section
variable {w0 wq wr w' : World} {ts : List Thing} {F I : List Nat} {gb W room lb nl p5 p6 p7 p8 : Nat} {L : List PNode} {R : Rel} {level : Int} {chv : Value} {ls : List Int}
theorem tw_boxes (h : Lab w0 wq ts) (gb lb : Nat) (level : Int) (chv : Value) :
    Lab w0 ((((wq.alloc (.cells #[.pointer (some ⟨gb, 0, none⟩)] 32)).alloc (.cells #[.pointer (some ⟨lb, 0, none⟩)] 28)).alloc (.cells #[.int .i64 level] 3)).alloc (.cells #[chv] 24))
      (twK wq.heap.size (wq.heap.size + 1) (wq.heap.size + 2) (wq.heap.size + 3) gb lb level chv :: ts) := by
  have h4 := (((h.alloc #[.pointer (some ⟨gb, 0, none⟩)] 32).alloc #[.pointer (some ⟨lb, 0, none⟩)] 28).alloc #[.int .i64 level] 3).alloc #[chv] 24
  simp only [World.size_alloc, Nat.add_assoc, Nat.reduceAdd] at h4
  exact Lab.bundle (fs := [_, _, _, _]) h4.swap.rot3.rot4
/-- The function value: the variable of the twin. -/
theorem Lab.twfn (h : Lab w0 wq (Thing.graph F I gb W room L :: twK p5 p6 p7 p8 gb lb level chv :: ts)) (hlat : LatIs w0 lb nl R) (hch : SliceOf w0 .i64 chv ls) (hl : 1 ≤ ls.length) (hl2 : ls.length ≤ 32) (m : Int) (hm : 0 ≤ m) (hm2 : m < 1000000000) :
    Calls Tryz.prog 36 #[.int .i64 m, .pointer (some ⟨p5, 0, none⟩), .pointer (some ⟨p6, 0, none⟩), .pointer (some ⟨p7, 0, none⟩), .pointer (some ⟨p8, 0, none⟩)] wq fun e w' =>
      ∃ F' I', e = .returned (.tuple #[.int .i64 (varR room L (ofR nl R level ls m)).2.1, .int .i64 (varR room L (ofR nl R level ls m)).2.2]) ∧ Lab w0 w' (Thing.graph F' I' gb W room (varR room L (ofR nl R level ls m)).1 :: twK p5 p6 p7 p8 gb lb level chv :: ts) := by
  have h1 := h.drew1
  have hof := twof_any (hlat.later h1.below) level (hch.later h1.below) hl hl2 m hm hm2
  have hc := twK_cells h1.second
  obtain ⟨q, hq⟩ : ∃ q, ofR nl R level ls m = q := ⟨_, rfl⟩
  rw [hq] at hof ⊢
  have hv := var_any h1.gr q
  obtain ⟨ao, no, co, rfl, -, -⟩ := hch.parts
  obtain ⟨d5, d6, d7, d8⟩ := hc
  obtain ⟨e5, e6, e7, e8⟩ := twK_cells h.second
  have HOF := Lib.hid hof; have HV := Lib.hid hv; have HL := Lib.hid h1
  clear h h1 hof hv hlat hch hq
  go_enter Tryz.func36, Tryz.ntmps36
  go_upto_region 1 with fail
  go_region_held3 (fun w' => w'.cell? ⟨p5, 0, none⟩ = some (.pointer (some ⟨gb, 0, none⟩)) ∧ w'.cell? ⟨p6, 0, none⟩ = some (.pointer (some ⟨lb, 0, none⟩)) ∧ w'.cell? ⟨p7, 0, none⟩ = some (.int .i64 level) ∧ w'.cell? ⟨p8, 0, none⟩ = some (.slice ao no co)) (first | exact ⟨by assumption, by assumption, by assumption, by assumption⟩ | go_keep)
    (first | (go_at_call 37; refine HOF.out.mono ?_; rintro e w5 ⟨rfl, rfl⟩) | (go_at_call 30; refine HV.out.mono ?_; intro e w5 hp; obtain ⟨F2, I2, rfl, hl2⟩ := HL.out.gpost hp; obtain ⟨g5, g6, g7, g8⟩ := twK_cells hl2.second; have HL2 := Lib.hid hl2; clear hl2 hp))
  all_goals
    go_wp2
    go_ret2
    exact ⟨_, _, rfl, HL2.out⟩
theorem tw_sub {f : Int → Int} {L1 : List PNode} {all vs us : List Int} {t : Nat} (hW : W ≤ 64) (h : TwInv W f L all (L1, vs, us)) (hn : all.Nodup) (ht : t < L.length) (hr : L1.length + (t + 1) ≤ room) :
    ∃ L2 s, subst2R W room L1 (t : Int) vs us = (L2, s, 0) ∧ substR W room L1 t (vs.zip us) = (L2, s, 0) ∧ WFL L2 ∧ GoodL W L2 ∧ L1 <+: L2 ∧ s < L2.length := by
  have hvs : vs = all.filter fun n => decide (f n ≠ n) := h.vs
  have hus : us.length = vs.length := h.us
  have hpre : L <+: L1 := h.pre
  have hnd : vs.Nodup := by rw [hvs]; exact hn.filter _
  have hterms : ∀ u ∈ us, (0 : Int) ≤ u ∧ u < (L1.length : Int) := fun u hu => by
    obtain ⟨j, hj⟩ := List.mem_iff_getElem?.1 hu
    have hlt := (List.getElem?_eq_some_iff.1 hj).1
    obtain ⟨x, hx, hx2⟩ := h.at_ j (vs[j]'(by omega)) (show vs[j]? = some (vs[j]'(by omega)) from List.getElem?_eq_getElem (by omega))
    have hx' : us[j]? = some (x : Int) := hx
    rw [hj] at hx'
    simp only [Option.some.injEq] at hx'
    subst hx'
    have := (List.getElem?_eq_some_iff.1 hx2).1
    have h2 : x < L1.length := this
    omega
  have hso : SubOk L1 (vs.zip us) := by
    refine ⟨?_, fun p hp => hterms p.2 (List.of_mem_zip hp).2⟩
    rw [List.map_fst_zip (by rw [hus]; exact Nat.le_refl _)]
    exact hnd
  have ht1 : t < L1.length := by have := hpre.length_le; omega
  obtain ⟨L2, s, h2, h3, h4, h5, -, h7⟩ := substR_ok (room := room) hW h.wf h.good ht1 hso hr
  exact ⟨L2, s, by unfold subst2R; rw [if_pos (by omega), if_pos hus.symm, h2], h2, h3, h4, h5, h7⟩
theorem InL_one {t : Nat} (ht : t < L.length) : InL L [(t : Int)] := fun x hx => by
  simp only [List.mem_cons, List.not_mem_nil, or_false] at hx
  omega
theorem ofR_bound {v : Int} (h0 : 0 ≤ v) (h1 : v ≤ 4194302) : 0 ≤ ofR nl R level ls v ∧ ofR nl R level ls v ≤ 4194303 := by
  rcases ofR_or nl R level ls v with h | h <;> omega
set_option maxRecDepth 100000 in
theorem Lab.term_ok (h : Lab w0 wq (Thing.graph F I gb W room L :: ts)) (hlat : LatIs w0 lb nl R) (hch : SliceOf w0 .i64 chv ls) (hm : mayE nl level ls = 0) (hg : GoodL W L) {t : Nat} (ht : t < L.length)
    (hev : ∀ v ∈ varsO L (occS L [(t : Int)]), v % 2 = 0 ∧ v ≤ 4194302) (hroom : 3 * L.length ≤ room) (hL : L.length ≤ 100000) :
    Calls Tryz.prog 10 #[.pointer (some ⟨gb, 0, none⟩), .pointer (some ⟨lb, 0, none⟩), .int .i64 level, chv, .int .i64 t] wq fun e w' =>
      ∃ L2 s F2 I2, e = .returned (.tuple #[.int .i64 ((s : Nat) : Int), .int .i64 0]) ∧ Lab w0 w' (Thing.graph F2 I2 gb W room L2 :: ts) ∧ WFL L2 ∧ GoodL W L2 ∧ L <+: L2 ∧ s < L2.length ∧
        ∀ inner outer, (∀ v : Nat, (v : Int) ∈ varsO L (occS L [(t : Int)]) → valAt outer v = valAt inner (ofR nl R level ls v).toNat) → val W inner L2 s = val W outer L t := by
  have hwf := h.gr.wf
  have hW1 := h.gr.w1
  have hW2 := h.gr.w2
  have hml := may_len hm
  obtain ⟨all, hall⟩ : ∃ all, varsO L (occS L [(t : Int)]) = all := ⟨_, rfl⟩
  have hin := InL_one (L := L) ht
  have hpos : ∀ v ∈ all, 0 ≤ v := fun v hv => by
    rw [← hall, mem_varsO] at hv
    obtain ⟨j, n, -, -, -, e⟩ := hv
    omega
  have halln : all.length ≤ L.length := by rw [← hall]; exact varsO_len
  have hnd : all.Nodup := by rw [← hall]; exact varsO_nodup hwf
  have hocc : ∀ (i v : Nat), L[i]? = some (1, v, []) → occ L t i = true → (v : Int) ∈ all := fun i v hi ho => by
    rw [← hall, mem_varsO]
    exact ⟨i, (1, v, []), by rw [occS_one hwf ht i (List.getElem?_eq_some_iff.1 hi).1]; exact ho, hi, rfl, rfl⟩
  rw [hall] at hev ⊢
  obtain ⟨f, hf⟩ : ∃ f : Int → Int, (fun v => ofR nl R level ls v) = f := ⟨_, rfl⟩
  have hfv : ∀ v, ofR nl R level ls v = f v := fun v => by rw [← hf]
  have hfb : ∀ n ∈ all, 0 ≤ f n ∧ f n ≤ 4194303 := fun n hn => by rw [← hfv]; exact ofR_bound (hpos n hn) (hev n hn).2
  have hrun := twRun_ok (room := room) hwf hg hfb (by omega)
  have hend : TwInv W f L all (twRun room f L all) := by have := hrun all.length (Nat.le_refl _); rwa [List.take_length] at this
  simp only [hfv]
  have HALL := Lib.hid hall
  have hb0 := tw_boxes h gb lb level chv
  obtain ⟨p, hp⟩ : ∃ p, wq.heap.size = p := ⟨_, rfl⟩
  rw [hp] at hb0
  obtain ⟨ao, no, co, rfl, hno, -⟩ := hch.parts
  have HB := Lib.hid hb0; have HLC := Lib.hid (And.intro hlat hch); have HM := Lib.hid hm; have HG := Lib.hid hg; have HIN := Lib.hid hin; have HEV := Lib.hid (And.intro hev hpos); have HRUN := Lib.hid hrun; have HEND := Lib.hid hend; have HFV := Lib.hid hfv; have HFB := Lib.hid hfb
  have HPL := Lib.hid (And.intro hnd (And.intro hocc (And.intro hwf (And.intro hW1 hW2)))); have HML := Lib.hid hml; have HN := Lib.hid halln
  clear h hb0 hlat hch hm hg hin hev hpos hrun hend hfv hfb hf hnd hocc hwf hW1 hW2 hml hall halln hno
  go_enter Tryz.func10, Tryz.ntmps10
  go_upto_region 1 with fail
  go_step3
  simp only [Nat.add_assoc, Nat.reduceAdd]
  refine wp_abs (fun wx => Lab w0 wx (twK p (p + 1) (p + 2) (p + 3) gb lb level (.slice ao no co) :: Thing.graph F I gb W room L :: ts)) HB.out ?_
  rintro w1 hl1
  obtain ⟨d5, d6, d7, d8⟩ := twK_cells hl1.head
  have hmay := may_any (HLC.out.1.later hl1.below) level (HLC.out.2.later hl1.below)
  rw [HM.out] at hmay
  have hl2 := hl1.alloc #[.int .i64 (t : Int)] 3
  have hv := hl2.rot3.vars HG.out (.slice (some ⟨w1.heap.size, 0, none⟩) 1 1) [(t : Int)] (slice_of_box (xs := [(t : Int)]) hl2.box1) (by simp)
  have HMAY := Lib.hid hmay; have HV := Lib.hid hv
  clear hl1 hl2 hmay hv HB hp
  go_wp2_with fail
  go_at_call 34
  refine HMAY.out.mono ?_
  rintro e w2 ⟨rfl, rfl⟩
  go_wp2_with fail
  go_at_call 35
  refine HV.out.mono ?_
  rintro e w3 ⟨h1, -⟩
  obtain ⟨a3, c3, rfl, hl3⟩ := h1 HIN.out
  rw [HALL.out] at hl3 ⊢
  obtain ⟨n, hn⟩ : ∃ n, all.length = n := ⟨_, rfl⟩
  have hn9 : n ≤ 100000 := by have := HN.out; omega
  rw [hn] at hl3 ⊢
  have hall : ∀ k, k < n → ∃ b q : Nat, a3 = some ⟨b, 0, none⟩ ∧ all[k]? = some (q : Int) ∧ w3.cell? ⟨b, k, none⟩ = some (.int .i64 (q : Int)) ∧ ((q : Int) % 2 == 1) = false ∧ ¬ (4194302 : Int) < (q : Int) := fun k hk => by
    have hs : SliceOf w3 .i64 (.slice a3 n c3) all := OwnInts.slice hl3.ints
    obtain ⟨b, off, x, e1, e2, e3⟩ := hs.parts' hk
    have hx0 := HEV.out.2 x (List.mem_of_getElem? e3)
    have hx1 := HEV.out.1 x (List.mem_of_getElem? e3)
    obtain ⟨q, rfl⟩ := Int.eq_ofNat_of_zero_le hx0
    obtain ⟨g, cap, e4⟩ := own_some' hl3.ints (by intro e; rw [e] at hn; simp at hn; omega)
    simp only [Value.slice.injEq] at e4
    rw [e1] at e4
    simp only [Option.some.injEq, Addr.mk.injEq, and_true] at e4
    obtain ⟨⟨rfl, rfl⟩, -⟩ := e4
    rw [Nat.zero_add] at e2
    exact ⟨b, q, e1, e3, e2, by rw [beq_eq_false_iff_ne]; omega, by omega⟩
  obtain ⟨e5, e6, e7, e8⟩ := twK_cells hl3.fourth
  have HL3 := Lib.hid hl3; have HA3 := Lib.hid hall; have HNN := Lib.hid hn
  clear h1 hl3 hall hn HV HMAY d5 d6 d7 d8
  go_wp2
  go_loopw [45] (fun v wx => ∃ k : Nat, k ≤ n ∧ v = .int .i64 k ∧ w3 = wx) (fun v _ => n - (intOf v).toNat)
  case atStart => exact ⟨0, by omega, rfl, rfl⟩
  case round =>
    obtain ⟨k, hk, rfl, rfl⟩ := hrel
    by_cases hlt : k < n
    · have hlt' : (k : Int) < (n : Int) := by omega
      have k0 : (0 : Int) ≤ (k : Int) := by omega
      obtain ⟨b, q, rfl, -, c1, q1, q2⟩ := HA3.out k hlt
      go_wp2
      refine ⟨⟨k + 1, by omega, by go_num, by first | rfl | trivial⟩, ?_⟩
      simp [intOf]; omega
    · obtain rfl : k = n := by omega
      have hl4 := HL3.out.rot3.drop
      have hl5 := (hl4.numsK_none (k := .i64) (E := 3)).numsK_none (k := .i64) (E := 3)
      have H5 := Lib.hid hl5
      clear hl4 hl5 HL3 HA3 e5 e6 e7 e8
      go_wp2
      go_step3
      go_wp2
      go_loopw [18, 19, 60] (fun v18 v19 v60 wx => ∃ j : Nat, j ≤ k ∧ v60 = .int .i64 j ∧ ∃ av cv au cu L1 vs us F I, twRun room f L (all.take j) = (L1, vs, us) ∧ v18 = .slice av vs.length cv ∧ v19 = .slice au us.length cu ∧
        Lab w0 wx (Thing.numsK .i64 3 (.slice av vs.length cv) vs :: Thing.numsK .i64 3 (.slice au us.length cu) us :: Thing.ints (.slice a3 k c3) all :: Thing.graph F I gb W room L1 :: twK p (p + 1) (p + 2) (p + 3) gb lb level (.slice ao no co) :: ts)) (fun _ _ v60 _ => k - (intOf v60).toNat)
      case atStart => exact ⟨0, by omega, rfl, none, 0, none, 0, L, [], [], F, I, rfl, rfl, rfl, H5.out⟩
      case round =>
        clear H5
        obtain ⟨j, hj, rfl, av, cv, au, cu, L1, vs, us, F, I, hrn, rfl, rfl, hl⟩ := hrel
        by_cases hlj : j < k
        · have hlj' : (j : Int) < (k : Int) := by omega
          have j0 : (0 : Int) ≤ (j : Int) := by omega
          obtain ⟨b, off, x, rfl, hc, hx⟩ := (OwnInts.slice hl.ints3).parts' hlj
          have hx0 := HEV.out.2 x (List.mem_of_getElem? hx)
          have hx1 := (HEV.out.1 x (List.mem_of_getElem? hx)).2
          have hfb := HFB.out x (List.mem_of_getElem? hx)
          have htk : all.take (j + 1) = all.take j ++ [x] := by rw [List.take_add_one, hx]; rfl
          have hnx : twRun room f L (all.take (j + 1)) = twStep room f (L1, vs, us) x := by rw [htk, twRun_snoc, hrn]
          have hinv := HRUN.out j (by have := HNN.out; omega)
          rw [hrn] at hinv
          have hst := twStep_ok (room := room) hinv hfb.1 hfb.2 (by rw [List.length_take]; have := HNN.out; have := HN.out; omega)
          have hof := twof_any (HLC.out.1.later hl.below) level (HLC.out.2.later hl.below) HML.out.1 HML.out.2.1 x hx0 (by omega)
          rw [HFV.out] at hof
          obtain ⟨d5, d6, d7, d8⟩ := twK_cells hl.fifth
          obtain ⟨y, hy⟩ : ∃ y, f x = y := ⟨_, rfl⟩
          have HOF := Lib.hid hof; have HL := Lib.hid hl; have HNX := Lib.hid hnx; have HST := Lib.hid hst; have HX := Lib.hid (And.intro hx0 (And.intro hx1 hfb)); have HRN := Lib.hid hrn
          have HY := Lib.hid hy
          have HVL := Lib.hid (show vs.length ≤ 100000 ∧ us.length ≤ 100000 by
            have h1 : vs = (all.take j).filter fun n => decide (f n ≠ n) := hinv.vs
            have h2 : us.length = vs.length := hinv.us
            have h3 := List.length_filter_le (fun n => decide (f n ≠ n)) (all.take j)
            rw [← h1, List.length_take] at h3
            omega)
          rw [hy] at HOF
          clear hl hx hx0 hx1 hfb htk hnx hinv hst hof hrn hy
          by_cases hxy : y = x
          · have HXY := Lib.hid hxy
            subst hxy
            go_wp2_with (go_at_call 37; refine HOF.out.mono ?_; rintro e w5 ⟨rfl, rfl⟩)
            refine ⟨⟨j + 1, by omega, by go_num, av, cv, au, cu, L1, vs, us, F, I, ?_, rfl, rfl, HL.out⟩, ?_⟩
            · rw [HNX.out]
              unfold twStep
              rw [if_pos HY.out]
            · simp [intOf]; omega
          · have hne : (y == x) = false := by rw [beq_eq_false_iff_ne]; exact hxy
            have hfn := HL.out.rot5.rot5.twfn HLC.out.1 HLC.out.2 (level := level) HML.out.1 HML.out.2.1 x HX.out.1 (by have := HX.out.2.1; omega)
            rw [HFV.out, HY.out] at hfn
            have he := HST.out.2 (by rw [HY.out]; exact hxy)
            rw [HY.out] at he
            have hnx := HNX.out
            unfold twStep at hnx
            rw [HY.out, if_neg hxy] at hnx
            obtain ⟨R3, hR3⟩ : ∃ R3, varR room L1 y = R3 := ⟨_, rfl⟩
            have he' : (varR room L1 y).2.2 = 0 := he
            rw [hR3] at he'
            have hnx' : twRun room f L (all.take (j + 1)) = (R3.1, vs ++ [x], us ++ [(R3.2.1 : Int)]) := by rw [hnx, ← hR3]
            rw [hR3] at hfn
            obtain ⟨L3, u, e3⟩ := R3
            simp only at he' hnx' hfn
            subst he'
            have HFN := Lib.hid hfn; have HNY := Lib.hid hnx'
            clear hfn he hnx hR3 hnx' hxy
            go_wp2_with fail
            go_at_call 37
            refine HOF.out.mono ?_
            rintro e w5 ⟨rfl, rfl⟩
            go_wp2_with fail
            go_at_call 36
            refine HFN.out.mono ?_
            rintro e w5 ⟨F5, I5, rfl, hl5⟩
            have hl6 := hl5.rot3
            have hl7 := hl6
            obtain ⟨a6, c6, w6, hr6, hl8⟩ := Lab.append1 (m := vs.length) 24 24 8 x rfl hl6 Tryz.underlying24 Tryz.infoI64 (by decide) (by have := HVL.out; omega)
            obtain ⟨a7, c7, w7, hr7, hl9⟩ := Lab.append1 (m := us.length) 24 24 8 (u : Int) rfl hl8.rot4 Tryz.underlying24 Tryz.infoI64 (by decide) (by have := HVL.out; omega)
            have HR6 := Lib.hid hr6; have HR7 := Lib.hid hr7; have HL9 := Lib.hid hl9
            clear hl5 hl6 hl7 hr6 hl8 hr7 hl9 HL
            go_wp2_with (first
              | (at_builtin; refine Lib.wpList_append_run _ rfl _ _ 24 24 rfl _ _ rfl rfl _ _ HR6.out ?_)
              | (at_builtin; refine Lib.wpList_append_run _ rfl _ _ 24 24 rfl _ _ rfl rfl _ _ HR7.out ?_))
            refine ⟨⟨j + 1, by omega, by go_num, a6, c6, a7, c7, L3, vs ++ [x], us ++ [(u : Int)], F5, I5, HNY.out, by rw [List.length_append]; rfl, by rw [List.length_append]; rfl, ?_⟩, ?_⟩
            · rw [List.length_append, List.length_append]
              exact HL9.out.swap.rot5.rot3.rot3
            · simp [intOf]; omega
        · obtain rfl : j = k := by omega
          rw [List.take_of_length_le (by rw [HNN.out]; exact Nat.le_refl _)] at hrn
          have hend := HEND.out
          rw [hrn] at hend
          have hlen1 : L1.length ≤ L.length + all.length := hend.len
          obtain ⟨L2, s, q1, q2, q3, q4, q5, q6⟩ := tw_sub (room := room) HPL.out.2.2.2.2 hend HPL.out.1 ht (by have := HN.out; omega)
          have hvs : vs = all.filter fun n => decide (f n ≠ n) := hend.vs
          have hus : us.length = vs.length := hend.us
          have hvl := List.length_filter_le (fun n => decide (f n ≠ n)) all
          rw [← hvs] at hvl
          have hg1 : GoodL W L1 := hend.good
          have hsub := Lab.subst hl.rot4 (t : Int) _ _ vs us (OwnInts.slice hl.rot4.second) (OwnInts.slice hl.rot4.third) hg1 (fun v hv => wf_i64 (by rw [hvs] at hv; have := HEV.out.2 v (List.mem_filter.1 hv).1; omega) (by rw [hvs] at hv; have := HEV.out.1 v (List.mem_filter.1 hv).1; omega)) (by have := HNN.out; omega) (by have := HNN.out; omega) q1
          have hval : ∀ inner outer, (∀ v : Nat, (v : Int) ∈ all → valAt outer v = valAt inner (f (v : Int)).toNat) → val W inner L2 s = val W outer L t := fun inner outer hv => tw_val HPL.out.2.2.2.1 HPL.out.2.2.2.2 HPL.out.2.2.1 hend HPL.out.1 ht HPL.out.2.1 q2 hv
          have hpre2 : L <+: L2 := List.IsPrefix.trans hend.pre q5
          obtain ⟨d5, d6, d7, d8⟩ := twK_cells hl.fifth
          have HSUB := Lib.hid hsub; have HFIN := Lib.hid (And.intro q3 (And.intro q4 (And.intro hpre2 (And.intro q6 hval))))
          clear hl hrn hend hlen1 q1 q2 q3 q4 q5 q6 hvs hus hvl hg1 hsub hval hpre2
          go_wp2_with fail
          go_at_call 38
          refine HSUB.out.mono ?_
          rintro e w5 ⟨F5, I5, rfl, hl5⟩
          have HL5 := Lib.hid hl5
          clear hl5
          go_wp2
          rw [Exit.noGoto_ret]
          go_ret2
          exact ⟨L2, s, F5, I5, rfl, HL5.out.swap.drop.swap.drop.swap.drop.swap.drop, HFIN.out.1, HFIN.out.2.1, HFIN.out.2.2.1, HFIN.out.2.2.2.1, HFIN.out.2.2.2.2⟩
end
end Go.Proofs.YteamnchoddegpaaGreatDoor
namespace Go.Proofs.YteamnchoddegpaaGreatDoor
open Go.RowKit Go.Maps
set_option maxHeartbeats 3200000
noncomputable def agRest (id : Nat) : Code := (Tryz.f5.body.bind (tailAt id)).getD .skip
abbrev agPost (w : World) : Exit → Act → World → Prop := bodyPost Tryz.prog Tryz.f5 (fun e w' => e = .returned (.bool true) ∧ Below w.heap.size w w')
/-- What the walk leans on from region 20 on. -/
structure AgIn (w w1 : World) (lb nl N : Nat) (R : Rel) (level : Int) (v5 v7 vb ve : Value) (ls vals : List Int) (rs : List RawN) (t : Nat) : Prop where
  below : Below w.heap.size w w1
  tab : TabOk w
  lat : LatIs w1 lb nl R
  levels : SliceOf w1 .i64 v5 ls
  valsIn : SliceOf w1 .u64 v7 vals
  u64 : U64s vals
  len : vals.length ≤ 60
  may : mayE nl level ls = 0
  n : ls.length = N
  n1 : 1 ≤ N
  n6 : N ≤ 6
  b : NumsOf w1 .u64 vb (full (valB N nl R level ls vals) 12 N)
  raws : RawsOf w1 ve (rs.map RawN.even)
  ok : ∀ r ∈ rs, r.Ok
  r1 : 1 ≤ rs.length
  r30 : rs.length ≤ 30
  t8 : t ≤ 255
section
variable {w w1 wr : World}
theorem valB_u64 {N nl : Nat} {R : Rel} {level : Int} {ls vals : List Int} (hu : U64s vals) (c k : Nat) : 0 ≤ valB N nl R level ls vals c k ∧ valB N nl R level ls vals c k ≤ 18446744073709551615 := valAt_u64 hu _
set_option maxRecDepth 100000 in
theorem ag_rest20 {u1 u2 u3 u8 u9 u10 u11 u12 u13 u14 u15 u16 u18 u19 u20 u22 u23 u24 u26 u27 u28 u29 u30 u31 u32 u33 u34 u35 u36 u37 u38 u39 u40 u41 u42 u43 u44 u45 u46 u47 u48 u49 u50 u51 u52 u53 u54 u55 u56 u57 u58 u59 u60 u61 u62 u63 u64 u65 u66 u67 u68 u69 u70 u71 u72 u73 u74 u75 u76 u77 u78 u79 u80 u81 u82 u83 u84 u85 u86 u87 u88 u89 u90 u91 u92 u93 u94 u95 u96 u97 u98 u99 u100 u101 u102 u103 u104 u105 u106 u107 u108 u109 u110 u111 u112 u113 u114 u115 u116 u117 u118 u119 u120 u121 u122 u123 u124 u125 u126 u127 u128 u129 u130 u131 u132 u133 u134 u135 u136 u137 u138 u139 u140 u141 u142 u143 u144 u145 u146 u147 u148 u149 u150 u151 u152 u153 u154 u155 u156 u157 u158 u159 u160 u161 u162 u163 u164 u165 u166 u167 u168 u169 u170 u171 u172 u173 u174 u175 u176 u177 u178 u179 u180 u181 u182 u183 u184 u185 u186 u187 u188 u189 u190 u191 u192 u193 u194 u195 u196 u197 u198 u199 u200 u201 u202 u203 u204 u205 u206 u207 : Value} {lb nl N : Nat} {R : Rel} {v5 v7 vb ve : Value} {ls vals : List Int} {rs : List RawN} {Wi level : Int} {t : Nat} (hin : AgIn w w1 lb nl N R level v5 v7 vb ve ls vals rs t) :
    Code.wp Tryz.prog (agRest 20) (agPost w) ⟨(List.toArray (.int .i64 Wi :: u1 :: u2 :: u3 :: .int .i64 level :: v5 :: .int .u8 t :: v7 :: u8 :: u9 :: u10 :: u11 :: u12 :: u13 :: u14 :: u15 :: u16 :: .pointer (some ⟨lb, 0, none⟩) :: u18 :: u19 :: u20 :: vb :: u22 :: u23 :: u24 :: ve :: u26 :: u27 :: u28 :: u29 :: u30 :: u31 :: u32 :: u33 :: u34 :: u35 :: u36 :: u37 :: u38 :: u39 :: u40 :: u41 :: u42 :: u43 :: u44 :: u45 :: u46 :: u47 :: u48 :: u49 :: u50 :: u51 :: u52 :: u53 :: u54 :: u55 :: u56 :: u57 :: u58 :: u59 :: u60 :: u61 :: u62 :: u63 :: u64 :: u65 :: u66 :: u67 :: u68 :: u69 :: u70 :: u71 :: u72 :: u73 :: u74 :: u75 :: u76 :: u77 :: u78 :: u79 :: u80 :: u81 :: u82 :: u83 :: u84 :: u85 :: u86 :: u87 :: u88 :: u89 :: u90 :: u91 :: u92 :: u93 :: u94 :: u95 :: u96 :: u97 :: u98 :: u99 :: u100 :: u101 :: u102 :: u103 :: u104 :: u105 :: u106 :: u107 :: u108 :: u109 :: u110 :: u111 :: u112 :: u113 :: u114 :: u115 :: u116 :: u117 :: u118 :: u119 :: u120 :: u121 :: u122 :: u123 :: u124 :: u125 :: u126 :: u127 :: u128 :: u129 :: u130 :: u131 :: u132 :: u133 :: u134 :: u135 :: u136 :: u137 :: u138 :: u139 :: u140 :: u141 :: u142 :: u143 :: u144 :: u145 :: u146 :: u147 :: u148 :: u149 :: u150 :: u151 :: u152 :: u153 :: u154 :: u155 :: u156 :: u157 :: u158 :: u159 :: u160 :: u161 :: u162 :: u163 :: u164 :: u165 :: u166 :: u167 :: u168 :: u169 :: u170 :: u171 :: u172 :: u173 :: u174 :: u175 :: u176 :: u177 :: u178 :: u179 :: u180 :: u181 :: u182 :: u183 :: u184 :: u185 :: u186 :: u187 :: u188 :: u189 :: u190 :: u191 :: u192 :: u193 :: u194 :: u195 :: u196 :: u197 :: u198 :: u199 :: u200 :: u201 :: u202 :: u203 :: u204 :: u205 :: u206 :: u207 :: [])), []⟩ w1 := by
  obtain ⟨a5, n5, c5, rfl, hn5, -⟩ := hin.levels.parts
  obtain ⟨a7, n7, c7, rfl, -, -⟩ := hin.valsIn.parts
  obtain ⟨ab, nb, cb, rfl, hnb, -⟩ : ∃ a n c, vb = .slice a n c ∧ (full (valB N nl R level ls vals) 12 N).length = n ∧ True := by
    obtain ⟨a, n, c, h1, h2, -⟩ := hin.b
    exact ⟨a, n, c, h1, h2, trivial⟩
  obtain rfl : n5 = N := by have := hin.n; omega
  rw [full_len] at hnb
  obtain rfl := hnb
  obtain ⟨ae, ne, ce, rfl, hne, -⟩ := hin.raws
  have hawk : ∀ wx, Below w1.heap.size w1 wx → Calls Tryz.prog 7 #[] wx fun e w' => e = .returned (.bool true) ∧ Below w.heap.size w w' := fun wx hb => by
    have hb2 := hin.below.trans (hb.mono hin.below.size)
    exact (awake35_any wx (hin.tab.later hb2)).mono fun e w' ⟨he, h⟩ => ⟨he, hb2.trans (h.mono hb2.size)⟩
  have HI := Lib.hid hin; have HA := Lib.hid hawk
  clear hin hawk hn5 hne
  by_cases hW : 1 ≤ Wi ∧ Wi ≤ 64
  · obtain ⟨W, hWW⟩ : ∃ W, Wi.toNat = W := ⟨_, rfl⟩
    have hW1 : 1 ≤ W := by omega
    have hW2 : W ≤ 64 := by omega
    have hlen : (rs.map RawN.even).length = rs.length := List.length_map _
    have hG := (Lab.nil (Below.refl _ w1)).graphs Wi hW.1 hW.2 _ (rs.map RawN.even) HI.out.raws (by have := HI.out.r30; omega)
    have hok : ∀ r ∈ rs.map RawN.even, r.Ok := fun r hr => by
      obtain ⟨s, hs, rfl⟩ := List.mem_map.1 hr
      exact RawN.even_ok (HI.out.ok s hs)
    have hro := rawsL_ok (W := W) (room := 1000) hW2 hok (by have := HI.out.r30; omega) (rs.map RawN.even).length (Nat.le_refl _)
    rw [List.take_length] at hro
    have hev := rawsL_even (W := W) (room := 1000) rs
    rw [hWW] at hG
    obtain ⟨L, hL⟩ : ∃ L, rawsL W 1000 (rs.map RawN.even) = L := ⟨_, rfl⟩
    rw [hL] at hG hro hev
    have hL30 : L.length ≤ 30 := by have := hro.1.len; have := HI.out.r30; omega
    have hL0 : 0 < L.length := hro.2 (by have := HI.out.r1; omega)
    have HG := Lib.hid hG; have HL := Lib.hid (And.intro hro.1.good (And.intro hro.1.wf (And.intro hev (And.intro hL30 hL0))))
    clear hG hok hro hev hL hlen hWW hW
    conv => arg 2; whnf
    go_wp2_with fail
    go_at_call 9
    refine HG.out.mono ?_
    rintro e w2 ⟨gb, rb, F, I, F', I', rfl, hl2⟩
    have HL2 := Lib.hid hl2
    obtain ⟨m, hm⟩ : ∃ m, L.length = m := ⟨_, rfl⟩
    have hlen2 := len_any hl2.gr
    rw [hm] at hlen2
    have hm0 : ¬ m = 0 := by omega
    obtain ⟨k, hk⟩ : ∃ k, t % m = k := ⟨_, rfl⟩
    have hkm2 : (t : Int) % (m : Int) = (k : Int) := by rw [← hk]; simp
    have hkm : ((t : Int).tmod (m : Int)) = (k : Int) := by rw [Int.tmod_eq_emod_of_nonneg (by omega)]; exact hkm2
    have hkl : k < m := by rw [← hk]; exact Nat.mod_lt _ (by omega)
    have ht8 := HI.out.t8
    have wt : IntKind.i64.wrap (t : Int) = (t : Int) := by rw [IntKind.wrap_i64]; omega
    have wk : IntKind.i64.wrap (k : Int) = (k : Int) := by rw [IntKind.wrap_i64]; omega
    have HLEN := Lib.hid hlen2; have HK := Lib.hid (show k < L.length by omega); have HM := Lib.hid hm
    clear hl2 hlen2 hk hm HG hL0 hL30
    go_wp2_with fail
    go_at_call 22
    refine HLEN.out.mono ?_
    rintro e w3 ⟨rfl, rfl⟩
    have hT := HL2.out.term_ok HI.out.lat HI.out.levels HI.out.may HL.out.1 HK.out (fun v hv => by have := even_vars HL.out.2.2.1 v hv; omega) (by have := HL.out.2.2.2.1; omega) (by have := HL.out.2.2.2.1; omega)
    have HT := Lib.hid hT
    clear hT HL2 HLEN
    go_wp2_with fail
    go_at_call 10
    refine HT.out.mono ?_
    rintro e w4 ⟨L2, s, F2, I2, rfl, hl4, -, -, hpre, hs2, hval⟩
    have HL4 := Lib.hid hl4; have HV := Lib.hid (And.intro hs2 (And.intro hval hpre))
    have hpv := pvals_any (NumsOf.laterW HI.out.b hl4.below) HI.out.n1 HI.out.n6 (valB_u64 HI.out.u64)
    have HPV := Lib.hid hpv
    clear hl4 hs2 hval hpre hpv HT
    go_wp2_with fail
    go_at_call 23
    refine HPV.out.mono ?_
    rintro e w5 ⟨va, out, rfl, hinv, hl5⟩
    have hl6 := HL4.out.joined hl5 (fun u hu => by
      simp only [List.mem_cons, List.not_mem_nil, or_false] at hu
      subst hu; rfl)
    have HL6 := Lib.hid (show Lab w1 w5 (Thing.numsK .u64 43 va out :: Thing.graph F2 I2 gb W 1000 L2 :: [Thing.rgraph F' I' rb W 1000 L]) from hl6); have HINV := Lib.hid hinv
    obtain ⟨ao, no, co, rfl, -, -⟩ := (show SliceOf w5 .u64 va out from OwnInts.slice (show OwnInts w5 0 43 .u64 va out from hl5.head)).parts
    obtain ⟨X, hX⟩ : ∃ X, val W vals L2 s = X := ⟨_, rfl⟩
    have hev2 : evalR W vals L2 ((s : Nat) : Int) = (X, 0) := by unfold evalR; rw [if_pos ⟨by omega, by have := HV.out.1; omega⟩, Int.toNat_natCast, hX]
    have hE := (show Lab w1 w5 (Thing.graph F2 I2 gb W 1000 L2 :: Thing.numsK .u64 43 (.slice ao no co) out :: [Thing.rgraph F' I' rb W 1000 L]) from HL6.out.swap).eval ((s : Nat) : Int) vals (.slice a7 n7 c7) (HI.out.valsIn.later HL6.out.below) (by have := HI.out.len; omega) HI.out.u64 hev2
    have hsec : val W out L k = X := by
      rw [← hX]
      refine (HV.out.2.1 vals out fun v hv => ?_).symm
      have h3 := even_vars HL.out.2.2.1 _ hv
      exact vals_second HI.out.n1 HINV.out (by omega) (by omega)
    have hev3 : evalR W out L2 ((k : Nat) : Int) = (X, 0) := by
      unfold evalR
      rw [if_pos ⟨by omega, by have := HV.out.2.2.length_le; have := HK.out; omega⟩, Int.toNat_natCast, val_prefix HV.out.2.2 HK.out, hsec]
    have HE := Lib.hid hE; have HE3 := Lib.hid hev3; have HOU := Lib.hid (And.intro HINV.out.u64 (show out.length ≤ 9223372036854775807 by have := HINV.out.len; have : 12 * n5 ≤ 12 * 6 := Nat.mul_le_mul_left 12 HI.out.n6; omega))
    clear hev2 hev3 hE hsec hX hinv hl5 hl6 HL4 HPV HV HINV HL6
    go_wp2_with fail
    go_at_call 14
    refine HE.out.mono ?_
    rintro e w6 ⟨rfl, hl7⟩
    have hE2 := hl7.eval ((k : Nat) : Int) out (.slice ao no co) (OwnInts.slice (show OwnInts w6 0 43 .u64 (.slice ao no co) out from hl7.second)) HOU.out.2 HOU.out.1 HE3.out
    have HE2 := Lib.hid hE2
    clear hl7 hE2 HE
    go_wp2_with fail
    go_at_call 14
    refine HE2.out.mono ?_
    rintro e w7 ⟨rfl, hl8⟩
    have HAW := Lib.hid (HA.out w7 hl8.below)
    have hXX : ((X : Int) == (X : Int)) = true := by simp
    clear hl8 HE2
    go_wp2_with fail
    go_at_call 7
    refine HAW.out.mono ?_
    rintro e w8 ⟨rfl, hb8⟩
    go_wp2
    go_ret
    exact ⟨rfl, hb8⟩
  · have hWc : Wi < 1 ∨ (¬ Wi < 1 ∧ 64 < Wi) := by omega
    have hgb := graphs_bad w1 Wi (.slice ae ne ce) hW
    have HGB := Lib.hid hgb; have HAW := Lib.hid (HA.out w1 (Below.refl _ _))
    clear hW hgb
    rcases hWc with hw1 | ⟨hw1, hw2⟩
    all_goals
      conv => arg 2; whnf
      go_wp2_with fail
      go_at_call 9
      refine HGB.out.mono ?_
      rintro e w2 ⟨rfl, rfl⟩
      go_wp2_with fail
      go_at_call 7
      refine HAW.out.mono ?_
      rintro e w3 ⟨rfl, hb3⟩
      go_wp2
      go_ret
      exact ⟨rfl, hb3⟩
end
end Go.Proofs.YteamnchoddegpaaGreatDoor
namespace Go.Proofs.YteamnchoddegpaaGreatDoor
open Go.RowKit Go.Maps
set_option maxHeartbeats 3200000
section
variable {w : World}
theorem Lab.lists_shapeM {w0 wr : World} {ts : List Thing} {k : IntKind} {E Es : Nat} {v : Value} {vs : List Value} {xss : List (List Int)} (h : Lab w0 wr (Thing.lists k E Es v vs xss :: ts)) : ∃ a n c, v = .slice a n c := by
  obtain ⟨a, c, e, -⟩ := row_shape h.lists_row
  exact ⟨a, _, c, e⟩
theorem full_at {f : Nat → Nat → Int} {n N c : Nat} (h : c < N) : (full f n N)[c]? = some ((List.range n).map (f c)) := by unfold full; rw [List.getElem?_map, List.getElem?_range h]; rfl
theorem full_len12 {f : Nat → Nat → Int} {N : Nat} : ∀ xs ∈ full f 12 N, xs.length ≤ 1000 := fun xs hx => by
  unfold full at hx
  obtain ⟨c, -, rfl⟩ := List.mem_map.1 hx
  simp
set_option maxRecDepth 100000 in
theorem twinAgrees_walk (Wi nI lv : Int) (t : Nat) (ht : t ≤ 255) (v1 v3 v5 v7 : Value) (w : World) (hT : TabOk w) (rs : List RawN) (hr : RawsOf w v1 rs) (os : List (Int × Int)) (hv : PairsOf w v3 os) (hn : os.length ≤ 9223372036854775807)
    (ls : List Int) (hs : SliceOf w .i64 v5 ls) (vals : List Int) (hvs : SliceOf w .u64 v7 vals) (hu : U64s vals) :
    Calls Tryz.prog 5 #[.int .i64 Wi, v1, .int .i64 nI, v3, .int .i64 lv, v5, .int .u8 t, v7] w fun e w' => e = .returned (.bool true) ∧ Below w.heap.size w w' := by
  have H2 := Lib.hid (lattices_any (Below.refl _ w) nI v3 os hv hn hT)
  have HR := Lib.hid hr
  obtain ⟨a1, n1, c1, rfl, hl1, -⟩ := hr
  obtain ⟨a3, n3, c3, rfl, -, -⟩ := hv
  have HS := Lib.hid (And.intro hs (And.intro hvs hu))
  obtain ⟨a5, n5, c5, rfl, hl5, -⟩ := hs.parts
  obtain ⟨a7, n7, c7, rfl, hl7, -⟩ := hvs.parts
  have H1 := Lib.hid (few_any w a3 a5 n3 c3 n5 c5)
  have HT := Lib.hid hT
  have HA0 := Lib.hid (awake35_any w hT)
  have HLN := Lib.hid (And.intro hl1 (And.intro hl7 hl5)); have HT8 := Lib.hid ht
  clear hs hvs hu hn hT hl1 hl7 hl5 ht
  by_cases hok : (n3 ≤ 30 ∧ n5 ≤ 40) ∧ n5 ≤ 6 ∧ 1 ≤ n1 ∧ n1 ≤ 30 ∧ n7 ≤ 60
  · obtain ⟨hf, h6, h1, h30, h60⟩ := hok
    rw [decide_eq_true hf] at H1
    have i5 : ¬ (6 : Int) < (n5 : Int) := by omega
    have i1 : ¬ (n1 : Int) < 1 := by omega
    have i2 : ¬ (30 : Int) < (n1 : Int) := by omega
    have i7 : ¬ (60 : Int) < (n7 : Int) := by omega
    have HN := Lib.hid (And.intro h6 (And.intro h1 (And.intro h30 h60)))
    clear hf HA0 h6 h1 h30 h60
    by_cases he : latE nI os = 0
    · replace H2 := Lib.hid (H2.out.mono fun e w' h => h.1 he)
      clear he
      go_enter Tryz.func5, Tryz.ntmps5
      go_wp2_with fail
      go_at_call 6
      refine H1.out.mono ?_
      rintro e w1 ⟨rfl, rfl⟩
      go_wp2_with fail
      go_at_call 8
      refine H2.out.mono ?_
      rintro e w1 ⟨lb, xb, rfl, hl, -, hb⟩
      obtain ⟨nl, hnl⟩ : ∃ nl, nI.toNat = nl := ⟨_, rfl⟩
      rw [hnl] at hl
      have HI := Lib.hid (And.intro hl (And.intro hb (And.intro (HS.out.1.later hb) (HS.out.2.1.later hb))))
      clear hl hb hnl H1 H2
      by_cases hm : mayE nl lv ls = 0
      · have hsp := (Lab.nil (Below.refl _ w1)).split_ok HI.out.1 HI.out.2.2.1 HI.out.2.2.2 hm (n := 12) (by decide) HLN.out.2.2
        rw [part_full, part_full] at hsp
        have HSP := Lib.hid hsp; have HM := Lib.hid hm
        clear hsp hm
        go_wp2_with fail
        go_at_call 19
        refine HSP.out.mono ?_
        rintro e w2 ⟨va, vb, vsa, vsb, rfl, hva, hvb, hl2⟩
        obtain ⟨aa, na, ca, rfl⟩ := hl2.lists_shapeM
        obtain ⟨ab, nb, cb, rfl⟩ := hl2.swap.lists_shapeM
        obtain rfl : na = n5 := by rw [hl2.lists_len, hva]
        obtain rfl : nb = na := by rw [hl2.swap.lists_len, hvb]
        have hNA := hl2.lists_read (by rw [full_len, hva])
        have hNB := hl2.swap.lists_read (by rw [full_len, hvb])
        have hvi := vinputs_any (HI.out.1.later hl2.below) (HI.out.2.2.1.later hl2.below) HM.out HLN.out.2.2 hNA hNB full_len12 (fun c hc hle => by
          rw [full_at hc, full_at hc]
          congr 1
          refine List.map_congr_left fun k _ => ?_
          exact (valAB HLN.out.2.2 hc hle k).symm)
        have HVI := Lib.hid hvi; have HB2 := Lib.hid (And.intro hl2.below hNB)
        clear hva hvb hl2 hNA hNB hvi HSP
        go_wp2_with fail
        go_at_call 21
        refine HVI.out.mono ?_
        rintro e w3 ⟨rfl, hb3⟩
        have hb13 := HB2.out.1.trans (hb3.mono HB2.out.1.size)
        have hb03 := HI.out.2.1.trans (hb13.mono HI.out.2.1.size)
        have HB3 := Lib.hid (And.intro hb13 (And.intro hb03 (NumsOf.laterW HB2.out.2 hb3)))
        have HRW := Lib.hid (HR.out.later hb03)
        have hn0 : 0 < n1 := by have := HN.out.2.1; omega
        have hn9 : n1 ≤ 1000000000 := by have := HN.out.2.2.1; omega
        clear hb3 hb13 hb03 HVI HB2
        go_upto_block 0 with (at_builtin; refine wpList_append_raws (.tmp 110) (Lab.nil (Below.refl _ w3)) HRW.out rfl rfl rfl HLN.out.1 hn9 hn0 ?_; intro g cg w4 hl4; have HL4 := Lib.hid hl4; clear hl4 hn9 hn0)
        go_cut [26] (fun _ wx => Lab w3 wx [Thing.raws (.slice (some ⟨g, 0, none⟩) n1 cg) (rs.map RawN.even)])
        case first =>
          go_wp2
          go_loopw [26] (fun i wx => ∃ c : Nat, c ≤ n1 ∧ i = .int .i64 c ∧ ∃ rs' : List RawN, rs'.length = n1 ∧ (∀ j r, rs[j]? = some r → rs'[j]? = some (if j < c then r.even else r)) ∧ Lab w3 wx [Thing.raws (.slice (some ⟨g, 0, none⟩) n1 cg) rs']) (fun i _ => n1 - (intOf i).toNat)
          case atStart => exact ⟨0, Nat.zero_le _, rfl, rs, HLN.out.1, fun j r hj => by rw [if_neg (by omega)]; exact hj, HL4.out⟩
          case round =>
            clear HL4
            obtain ⟨c, hc, rfl, rs', hlen, hrel', hl⟩ := hrel
            by_cases hlt : c < n1
            · have hlt' : (c : Int) < (n1 : Int) := by omega
              have c0 : (0 : Int) ≤ (c : Int) := by omega
              obtain ⟨r, hrc⟩ : ∃ r, rs[c]? = some r := ⟨_, List.getElem?_eq_getElem (by have := HLN.out.1; omega)⟩
              have hr' := hrel' c r hrc
              rw [if_neg (Nat.lt_irrefl _)] at hr'
              have hrok := HR.out.ok r (List.mem_of_getElem? hrc)
              have k0 := (Lab.raws_cell hlen hl hr' (k := 0) (by decide)).1
              obtain ⟨k3, f3⟩ := Lab.raws_cell hlen hl hr' (k := 3) (by decide)
              rw [Nat.add_zero] at k0
              replace k0 : wr.cell? ⟨g, c * 5, none⟩ = some (.int .u8 r.kind) := k0
              replace k3 : wr.cell? ⟨g, c * 5 + 3, none⟩ = some (.int .u16 r.a) := k3
              by_cases h1 : r.kind % 3 = 1
              · have hk1 : (((r.kind : Int) % 3) == 1) = true := by rw [beq_iff_eq]; omega
                obtain ⟨z, hz⟩ : ∃ z, 2 * (r.a % 6) = z := ⟨_, rfl⟩
                have how : IntKind.u16.wrap (2 * ((r.a : Int) % 6)) = (z : Int) := by rw [← hz]; simp [IntKind.wrap, IntKind.bits, IntKind.signed]; omega
                have hl2 := Lab.raws_set hlen hl hr' z
                have hev : r.even = { r with a := z } := by unfold RawN.even; rw [if_pos h1, hz]
                rw [← hev] at hl2
                have HL := Lib.hid (And.intro hl2 (And.intro (show (rs'.set c r.even).length = n1 by rw [List.length_set]; exact hlen) (show ∀ j s, rs[j]? = some s → (rs'.set c r.even)[j]? = some (if j < c + 1 then s.even else s) from fun j s hj => by
                  have := hrel' j s hj
                  rw [List.getElem?_set]
                  by_cases e : c = j
                  · subst e
                    rw [if_pos rfl, if_pos (by rw [hlen]; exact hlt), if_pos (by omega)]
                    rw [hrc] at hj; cases hj; rfl
                  · rw [if_neg e, this]
                    by_cases e2 : j < c
                    · rw [if_pos e2, if_pos (by omega)]
                    · rw [if_neg e2, if_neg (by omega)])))
                clear hl hl2 hev hz h1 hrel' hr' hrc hrok hlen
                go_wp2
                go_roundw
                case rel => exact ⟨c + 1, by omega, by go_num, _, HL.out.2.1, HL.out.2.2, HL.out.1⟩
                case measure => simp [intOf]; omega
              · have hk1 : (((r.kind : Int) % 3) == 1) = false := by rw [beq_eq_false_iff_ne]; omega
                have hev : r.even = r := by unfold RawN.even; rw [if_neg h1]
                have HL := Lib.hid (And.intro hl (And.intro hlen (show ∀ j s, rs[j]? = some s → rs'[j]? = some (if j < c + 1 then s.even else s) from fun j s hj => by
                  have := hrel' j s hj
                  rw [this]
                  by_cases e : c = j
                  · subst e
                    rw [if_neg (Nat.lt_irrefl _), if_pos (by omega)]
                    rw [hrc] at hj; cases hj; rw [hev]
                  · by_cases e2 : j < c
                    · rw [if_pos e2, if_pos (by omega)]
                    · rw [if_neg e2, if_neg (by omega)])))
                clear hl hev h1 hrel' hr' hrc hrok hlen
                go_wp2
                go_roundw
                case rel => exact ⟨c + 1, by omega, by go_num, _, HL.out.2.1, HL.out.2.2, HL.out.1⟩
                case measure => simp [intOf]; omega
            · obtain rfl : n1 = c := by omega
              have hrs : rs' = rs.map RawN.even := by
                refine List.ext_getElem? fun j => ?_
                rw [List.getElem?_map]
                by_cases hj : j < n1
                · have hj2 : rs[j]? = some (rs[j]'(by have := HLN.out.1; omega)) := List.getElem?_eq_getElem _
                  rw [hrel' j _ hj2, if_pos hj, hj2]; rfl
                · rw [List.getElem?_eq_none (by omega), List.getElem?_eq_none (by have := HLN.out.1; omega)]; rfl
              rw [hrs] at hl
              have HL := Lib.hid hl
              clear hl hrel' hrs hlen
              go_wp2
              go_meet
              exact HL.out
        case rest =>
          have hb3 := hcut.below
          have hokr : ∀ r ∈ rs.map RawN.even, r.Ok := fun r hr => by
            obtain ⟨s, hs, rfl⟩ := List.mem_map.1 hr
            exact RawN.even_ok (HR.out.ok s hs)
          have hb13 := HB3.out.1.trans (hb3.mono HB3.out.1.size)
          have hb03 := HB3.out.2.1.trans (hb3.mono HB3.out.2.1.size)
          have hraws := hcut.raws_read hokr
          exact (show ∀ (a : Act) (w : World), Code.wp Tryz.prog (agRest 20) _ a w → _ by assumption) _ _ (ag_rest20 ⟨hb03, HT.out, HI.out.1.later hb13, HI.out.2.2.1.later hb13, HI.out.2.2.2.later hb13, HS.out.2.2, by have := HLN.out.2.1; have := HN.out.2.2.2; omega, HM.out, HLN.out.2.2, by have := may_len HM.out; have := HLN.out.2.2; omega, HN.out.1, NumsOf.laterW HB3.out.2.2 hb3, hraws, HR.out.ok, by have := HLN.out.1; have := HN.out.2.1; omega, by have := HLN.out.1; have := HN.out.2.2.1; omega, HT8.out⟩)
      · have hsp := (Lab.nil (Below.refl _ w1)).split_bad HI.out.1 HI.out.2.2.1 HI.out.2.2.2 (n := 12) (show splE nl lv ls 12 ≠ 0 by unfold splE; rw [if_pos hm]; decide)
        have HSP := Lib.hid hsp
        clear hsp hm
        go_wp2_with fail
        go_at_call 19
        refine HSP.out.mono ?_
        rintro e w2 ⟨rfl, hl2⟩
        have hb2 := HI.out.2.1.trans (hl2.below.mono HI.out.2.1.size)
        have HA := Lib.hid (awake35_any w2 (HT.out.later hb2)); have HB2 := Lib.hid hb2
        clear hl2 hb2 HSP
        go_wp2_with fail
        go_at_call 7
        refine HA.out.mono ?_
        rintro e w3 ⟨rfl, hb3⟩
        go_wp2
        go_ret
        exact ⟨rfl, HB2.out.trans (hb3.mono HB2.out.size)⟩
    · replace H2 := Lib.hid (H2.out.mono fun e w' h => h.2 he)
      clear he
      go_enter Tryz.func5, Tryz.ntmps5
      go_wp2_with fail
      go_at_call 6
      refine H1.out.mono ?_
      rintro e w1 ⟨rfl, rfl⟩
      go_wp2_with fail
      go_at_call 8
      refine H2.out.mono ?_
      rintro e w1 ⟨rfl, hb⟩
      have HB := Lib.hid hb
      have HA := Lib.hid (awake35_any w1 (HT.out.later hb))
      clear hb
      go_wp2_with fail
      go_at_call 7
      refine HA.out.mono ?_
      rintro e w3 ⟨rfl, hb3⟩
      go_wp2
      go_ret
      exact ⟨rfl, HB.out.trans (hb3.mono HB.out.size)⟩
  · have main : ¬ (n3 ≤ 30 ∧ n5 ≤ 40) ∨ ((n3 ≤ 30 ∧ n5 ≤ 40) ∧ ((6 : Int) < (n5 : Int) ∨ (¬ (6 : Int) < (n5 : Int) ∧ ((n1 : Int) < 1 ∨ (¬ (n1 : Int) < 1 ∧ ((30 : Int) < (n1 : Int) ∨ (¬ (30 : Int) < (n1 : Int) ∧ (60 : Int) < (n7 : Int)))))))) := by omega
    clear hok H2 HS HT HLN HR
    rcases main with hf | ⟨hf, h2 | ⟨h2, h3 | ⟨h3, h4 | ⟨h4, h5⟩⟩⟩⟩
    · rw [decide_eq_false hf] at H1
      clear hf
      go_enter Tryz.func5, Tryz.ntmps5
      go_wp2_with (first | (go_at_call 6; refine H1.out.mono ?_; rintro e w1 ⟨rfl, rfl⟩) | (go_at_call 7; refine HA0.out.mono ?_; rintro e w2 ⟨rfl, hb⟩))
      go_ret
      exact ⟨rfl, hb⟩
    all_goals
      rw [decide_eq_true hf] at H1
      clear hf
      go_enter Tryz.func5, Tryz.ntmps5
      go_wp2_with (first | (go_at_call 6; refine H1.out.mono ?_; rintro e w1 ⟨rfl, rfl⟩) | (go_at_call 7; refine HA0.out.mono ?_; rintro e w2 ⟨rfl, hb⟩))
      go_ret
      exact ⟨rfl, hb⟩
end
end Go.Proofs.YteamnchoddegpaaGreatDoor
