/- EvalTogether of law 11. -/
import Derived.Test.YteofgmjejocleaaEvalI
import Derived.Deep.DrawnRows
namespace Go.Proofs.Yteofgmjejocleaa
open Go.RowKit Go.Maps
set_option maxHeartbeats 1600000

section
variable {P : Program}
/-- append onto an own slice of integers from whatever slice, at a step of a region that draws its order: all from a block on is new. -/
theorem step_append_base {ops : Array Oper} {o : Oper} {a : Act} {K : Act → World → Prop} {Q : Exit → Act → World → Prop} {E0 : Prop} (B T E : Nat) (k : IntKind) (bytes : Nat) (w : World) (v xv : Value) (xs ys : List Int)
    (hown : OwnInts w B E k v xs) (hsrc : SliceOf w k xv ys) (hbase : B ≤ w.heap.size) (hgd : o.guard = none) (s x : Operand) (ho : o.op = .call { callee := .builtin .append, args := #[s, x], argTypes := #[T, T] })
    (ht : P.underlying T = some (.slice E)) (hi : (P.info? E).map (fun i => (i.zero, i.size, i.bytes)) = some (some (.int k 0), 1, bytes)) (hbt : bytes ≤ 1000)
    (hs : a.eval s = v) (hx : a.eval x = xv) (hn : xs.length + ys.length ≤ 1000000000)
    (h : ∀ a' m' c' w', OwnInts w' B E k (.slice a' m' c') (xs ++ ys) → Below B w w' → K (a.put o.dst (.slice a' m' c')) w') :
    if Region.wanted o (yielded ops a.tmps) = true then Oper.wp P o a w K Q else E0 := by
  have hw : Region.wanted o (yielded ops a.tmps) = true := by simp [Region.wanted, hgd]
  rw [if_pos hw]
  obtain ⟨v', w', hr, h2, h3⟩ := run_append_src (P := P) w B T o.type E 1 bytes (.int k 0) ht hi rfl (by decide) hbt v xv xs.length ys.length _ _ hown hsrc.src (by
    intro u hu
    obtain ⟨y, _, rfl⟩ := List.mem_map.1 hu
    rfl) hn hbase
  have h2' : OwnInts w' B E k v' (xs ++ ys) := by
    unfold OwnInts
    rw [List.length_append, List.map_append]
    exact h2
  obtain ⟨a', m', c', rfl⟩ := h2'.val
  unfold Oper.wp execOp
  simp only [ho, resolve, invoke, builtin, Sem.run_bind, Sem.run_pure, Result.andThen_ok, List.map_toArray, List.map_cons, List.map_nil, hs, hx, hr]
  exact h a' m' c' w' h2' ((Below.refl B w).grown h3 hbase fun k hk => (hown.lt k hk).1)
/-- One element is appended to an own slice, at a step of a region that draws its order. -/
theorem step_append1 {ops : Array Oper} {o : Oper} {a : Act} {K : Act → World → Prop} {Q : Exit → Act → World → Prop} {E0 : Prop} (T E : Nat) (k : IntKind) (wr : World) (v : Value) (xs : List Int) (q : Int) (bytes : Nat)
    (hown : OwnInts wr 0 E k v xs) (hgd : o.guard = none) (s x : Operand) (ho : o.op = .call { callee := .builtin .append, args := #[s, x], argTypes := #[T, T] })
    (ht : P.underlying T = some (.slice E)) (hi : (P.info? E).map (fun i => (i.zero, i.size, i.bytes)) = some (some (.int k 0), 1, bytes)) (hbt : bytes ≤ 1000)
    (hs : a.eval s = v) (hx : a.eval x = .slice (some ⟨wr.heap.size, 0, none⟩) 1 1) (hn : xs.length ≤ 999999999)
    (h : ∀ a' c' w', OwnInts w' 0 E k (.slice a' (xs.length + 1) c') (xs ++ [q]) → Touch v.ownBlock.toList wr w' → (∀ b, (Value.slice a' (xs.length + 1) c').ownBlock = some b → v.ownBlock = some b ∨ wr.heap.size ≤ b) →
      K (a.put o.dst (.slice a' (xs.length + 1) c')) w') :
    if Region.wanted o (yielded ops a.tmps) = true then Oper.wp P o a (wr.alloc (.cells #[.int k q] E)) K Q else E0 := by
  have hw : Region.wanted o (yielded ops a.tmps) = true := by simp [Region.wanted, hgd]
  rw [if_pos hw]
  have hsrc := srcOf_new wr (.int k q) E
  have hown' : (wr.alloc (.cells #[.int k q] E)).ownsRow 0 E 1 v xs.length (xs.map (Value.int k)) := hown.alloc _
  have h1 : ∀ u ∈ [Value.int k q], u.oneCell' = true := by simp [Value.oneCell']
  obtain ⟨v', w', hr, h2, h3⟩ := run_append_src (P := P) (wr.alloc (.cells #[.int k q] E)) 0 T o.type E 1 bytes (.int k 0) ht hi rfl (by decide) hbt v _ xs.length 1 _ [.int k q] hown' hsrc h1 (by omega) (Nat.zero_le _)
  have blk := append_block (P := P) (T := T) (ty := o.type) (bytes := bytes) (z := .int k 0) ht hi hbt hown' hsrc h1 (by decide) (by omega) hr
  obtain ⟨a', c', rfl⟩ : ∃ a' c', v' = .slice a' (xs.length + 1) c' := by
    rcases h2.2 with ⟨_, h0⟩ | ⟨g, cap, cur, rfl, _⟩
    · omega
    · exact ⟨_, _, rfl⟩
  unfold Oper.wp execOp
  simp only [ho, resolve, invoke, builtin, Sem.run_bind, Sem.run_pure, Result.andThen_ok, List.map_toArray, List.map_cons, List.map_nil, hs, hx, hr]
  refine h a' c' w' ?_ ?_ ?_
  · unfold OwnInts
    rw [List.length_append, List.map_append]
    exact h2
  · refine ⟨h3.os, h3.tape, h3.output, by have := h3.size; simp at this; omega, fun b hb hn => ?_⟩
    rw [h3.block b (by simp; omega) (fun e => hn (by simp [← e])), heap_alloc_old _ _ hb]
  · intro b hb
    exact (blk b hb).imp id (fun h => by simp at h; omega)
end
theorem SliceOf.drop {w : World} {k : IntKind} {b off n cap : Nat} {xs : List Int} (h : SliceOf w k (.slice (some ⟨b, off, none⟩) n cap) xs) (m cap' : Nat) (hm : m ≤ n) : SliceOf w k (.slice (some ⟨b, off + m, none⟩) (n - m) cap') (xs.drop m) := by
  obtain ⟨a', n', c', e, hl, hc⟩ := h.parts
  simp only [Value.slice.injEq] at e
  obtain ⟨rfl, rfl, rfl⟩ := e
  refine ⟨_, _, cap', rfl, by rw [List.length_drop]; omega, fun i hi => ?_⟩
  obtain ⟨b', off', q, e', hq, hx⟩ := hc (m + i) (by omega)
  simp only [Option.some.injEq, Addr.mk.injEq, and_true] at e'
  obtain ⟨rfl, rfl⟩ := e'
  refine ⟨_, _, rfl, ?_⟩
  rw [Nat.add_assoc, hq, List.getD_eq_getElem?_getD, List.getElem?_drop, hx]; rfl
theorem Lab.back {w0 wr w' : World} {ts : List Thing} (h : Lab w0 wr ts) (hb : Below wr.heap.size wr w') : Lab w0 w' ts := h.later hb
set_option maxRecDepth 100000 in
theorem evalTogether_walk {w : World} (Wi Ai : Int) (v v2 v3 : Value) (qs : List PAsk) (hv : AsksOf w v qs) (hq : qs.length ≤ 9223372036854775807) (ts vals : List Int) (hv2 : SliceOf w .i64 v2 ts) (hn2 : ts.length ≤ 9223372036854775807) (hv3 : SliceOf w .u64 v3 vals) (hvu : U64s vals) (hn3 : vals.length ≤ 9223372036854775807) (hc3 : ∀ a n c, v3 = .slice a n c → n ≤ c) :
    Calls Try.prog 7 #[.int .i64 Wi, v, v2, v3, .int .i64 Ai] w fun e w' => e = .returned (.bool true) ∧ Below w.heap.size w w' := by
  obtain ⟨a3, n3, cap3, rfl, hl3, -⟩ := hv3.parts
  have hcap3 := hc3 _ _ _ rfl
  rw [hl3] at hn3
  obtain ⟨a2, n2, cap2, rfl, hl2, hc2⟩ := hv2.parts
  rw [hl2] at hn2
  have hfill := fill_lab Wi v qs hv hq
  obtain ⟨a, cap, rfl⟩ := hv.parts
  obtain ⟨W, hW⟩ : ∃ W, (Wi % 64).toNat + 1 = W := ⟨_, rfl⟩
  rw [hW] at hfill
  have hW1 : 1 ≤ W := by omega
  have hW2 : W ≤ 64 := by omega
  have hlen : (fillS W (qs.take 120)).1.length ≤ 120 := by have := (fillS_len W (qs.take 120)).1; have := List.length_take_le 120 qs; omega
  obtain ⟨S, hS⟩ : ∃ S, fillS W (qs.take 120) = S := ⟨_, rfl⟩
  rw [hS] at hfill hlen
  obtain ⟨L, ts0⟩ := S
  simp only at hfill hlen
  have HF := Lib.hid hfill; have HV3 := Lib.hid hv3; have HVU := Lib.hid hvu; have HL3 := Lib.hid hl3; have HC2 := Lib.hid hc2
  clear hv hv3 hvu hc3 hl3 hfill hW hS hv2 hl2 hc2
  go_enter Try.func7, Try.ntmps7
  go_wp2_with fail
  go_at_call 25
  refine HF.out.mono ?_
  rintro e w1 ⟨gb, F, I, ax, mx, cx, rfl, hl1⟩
  have HL1 := Lib.hid hl1.swap.drop
  clear hl1
  go_upto_region 4 with fail
  go_cut [3] (fun v3 wx => ∃ m3, v3 = .slice a3 m3 cap3 ∧ m3 ≤ n3 ∧ m3 ≤ 30 ∧ Lab w wx [Thing.graph F I gb W 1048576 L])
  case first =>
    by_cases h30 : (30 : Int) < (n3 : Int)
    · go_wp2
      go_meet
      exact ⟨_, rfl, by omega, by omega, HL1.out⟩
    · go_wp2
      go_meet
      exact ⟨_, rfl, by omega, by omega, HL1.out⟩
  case rest =>
    obtain ⟨m3, rfl, h31, h32, hl⟩ := hcut
    have hvs := HV3.out.take m3 cap3 h31
    obtain ⟨vs, hvs0⟩ : ∃ vs, vals.take m3 = vs := ⟨_, rfl⟩
    have hvsu := HVU.out.take m3
    have hvl : vs.length = m3 := by rw [← hvs0, List.length_take, HL3.out]; omega
    rw [hvs0] at hvs hvsu
    have HVS := Lib.hid hvs; have HVSU := Lib.hid hvsu; have HVL := Lib.hid hvl; have HL := Lib.hid hl
    clear hvs hvs0 hvsu hl hvl HVU HV3 HL3 HL1
    go_upto_block 0 with fail
    go_cut [13] (fun v wx => ∃ xs a m c, v = .slice a m c ∧ xs.length ≤ 20 ∧ AllIn L xs ∧ Lab w wx [Thing.graph F I gb W 1048576 L, Thing.ints (.slice a m c) xs])
    case first =>
      go_wp2
      go_loopw [13, 14] (fun v i wr => ∃ k : Nat, k ≤ n2 ∧ k ≤ 20 ∧ i = .int .i64 k ∧ ∃ xs a m c, v = .slice a m c ∧ xs.length = k ∧ AllIn L xs ∧ Lab w wr [Thing.ints (.slice a m c) xs, Thing.graph F I gb W 1048576 L]) (fun _ i _ => n2 - (intOf i).toNat)
      case atStart => exact ⟨0, by omega, by omega, rfl, [], _, _, _, rfl, rfl, by simp [AllIn], HL.out.nil_ints⟩
      case round =>
        obtain ⟨k, hk, hk2, rfl, xs, ao, mo, co, rfl, hxl, hin, hl⟩ := hrel
        by_cases hlt : k < n2
        · by_cases hlt2 : k < 20
          · by_cases hlen0 : 0 < L.length
            · obtain ⟨b, off, t, rfl, hc, ht⟩ := HC2.out k hlt
              have hc1 := cell_later hl.below hc
              have hld := hl.later (Below.refl _ _).drew
              have hg := hld.second
              have hown : OwnInts wr.drew 0 3 .i64 (.slice ao mo co) xs := hld.ints
              have hlx : xs.length ≤ 999999999 := by omega
              have hq0 := Int.emod_nonneg t (show (L.length : Int) ≠ 0 by omega)
              have hq1 := Int.emod_lt_of_pos t (show (0 : Int) < (L.length : Int) by omega)
              have hlen0' : (0 : Int) < (L.length : Int) := by omega
              have HC1 := Lib.hid hc; have HLd := Lib.hid hld; have HG := Lib.hid hg; have HIN := Lib.hid hin; have HGR := Lib.hid hl.swap.gr
              clear ht hc hl hld hg hin
              go_wp2_with (go_at_call 26; refine (len_any HGR.out).mono ?_; rintro e w4 ⟨rfl, rfl⟩)
              go_region_held3 (fun w' => w'.cell? ⟨b, off + k, none⟩ = some (.int .i64 t)) (first | exact hc1 | assumption | go_keep)
                ((first | (go_at_call 26; refine (len_any HG.out).mono ?_; rintro e w4 ⟨rfl, rfl⟩) | (go_at_call 15; refine (mod_any t (L.length : Int) (by omega) (by omega) _).mono ?_; rintro e w5 ⟨rfl, rfl⟩) | (refine step_append1 (P := Try.prog) 32 3 .i64 wr.drew (.slice ao mo co) xs (t % (L.length : Int)) 8 hown (by rfl) _ _ (by rfl) Try.underlying32 Try.infoI64 (by decide) (by rfl) (by rfl) hlx ?_; intro a5 c5 w5 hown5 ht5 hb5; have hl5 := HLd.out.grown_ints hown5 ht5 hb5; have s5 := cell_later hl5.below HC1.out)))
              rw [hxl] at hl5
              have HL5 := Lib.hid hl5
              clear hl5 hown5 ht5 hb5 s5 hown hc1
              go_wp2
              go_roundw
              case rel =>
                refine ⟨k + 1, by omega, by omega, by go_num, _, _, _, _, rfl, by rw [List.length_append, hxl]; rfl, fun u hu => ?_, HL5.out.swap.swap⟩
                rcases List.mem_append.1 hu with hu | hu
                · exact HIN.out u hu
                · simp at hu; subst hu; exact ⟨hq0, hq1⟩
              case measure => simp [intOf]; omega
            · have HX := Lib.hid (And.intro hin hl)
              have hlen0' : ¬ (0 : Int) < (L.length : Int) := by omega
              have HGR := Lib.hid hl.swap.gr
              clear hin hl
              go_wp2_with (go_at_call 26; refine (len_any HGR.out).mono ?_; rintro e w4 ⟨rfl, rfl⟩)
              go_meet
              exact ⟨xs, _, _, _, rfl, by omega, HX.out.1, HX.out.2.swap⟩
          · obtain rfl : k = 20 := by omega
            have HX := Lib.hid (And.intro hin hl)
            clear hin hl
            go_wp2
            go_meet
            exact ⟨xs, _, _, _, rfl, by omega, HX.out.1, HX.out.2.swap⟩
        · obtain rfl : k = n2 := by omega
          have HX := Lib.hid (And.intro hin hl)
          clear hin hl
          go_wp2
          go_meet
          exact ⟨xs, _, _, _, rfl, by omega, HX.out.1, HX.out.2.swap⟩
    case rest =>
      obtain ⟨xs, ao, mo, co, rfl, hxl, hin, hl⟩ := hcut
      obtain rfl : mo = xs.length := by
        obtain ⟨_, _, _, e, hl', _⟩ := (show OwnInts wc 0 3 .i64 (.slice ao mo co) xs from hl.second).slice
        simp only [Value.slice.injEq] at e
        omega
      obtain ⟨N, hN⟩ : ∃ N, xs.length = N := ⟨_, rfl⟩
      have hsx : ∀ wx, Below wc.heap.size wc wx → SliceOf wx .i64 (.slice ao xs.length co) xs := fun wx hb => (show OwnInts wc 0 3 .i64 (.slice ao xs.length co) xs from hl.second).slice.below hb
      have hall := hl.all xs vs _ _ (hsx _ (Below.refl _ _)) (HVS.out.below hl.below) (by omega) (by have := HVL.out; omega) HVSU.out (allR_in hin)
      have hmlen : (allV W vs L xs).length = N := by unfold allV; rw [List.length_map, hN]
      rw [hN] at hall hsx ⊢
      have HALL := Lib.hid hall; have HSX := Lib.hid hsx; have HIN := Lib.hid hin; have HN := Lib.hid hN; have HML := Lib.hid hmlen
      rw [hN] at hxl
      clear hall hsx hin hl hN hmlen
      go_wp2_with fail
      go_at_call 12
      refine HALL.out.mono ?_
      rintro e w3 ⟨aA, mA, cA, rfl, h3⟩
      obtain rfl : mA = N := by rw [← HML.out]; exact nums_len h3.second
      have H3 := Lib.hid h3
      clear h3
      have tne : ((mA : Int) != (mA : Int)) = false := by simp
      go_wp2
      go_loopw [17] (fun i wr => ∃ k : Nat, k ≤ mA ∧ i = .int .i64 k ∧ Lab w wr [Thing.graph F I gb W 1048576 L, Thing.nums (.slice aA mA cA) (allV W vs L xs), Thing.ints (.slice ao mA co) xs]) (fun i _ => mA - (intOf i).toNat)
      case atStart => exact ⟨0, by omega, rfl, H3.out⟩
      case round =>
        obtain ⟨k, hk, rfl, hl⟩ := hrel
        by_cases hlt : k < mA
        · obtain ⟨b, off, t, rfl, d0, hx⟩ := (show OwnInts wr 0 3 .i64 (.slice ao mA co) xs from hl.third).slice.parts' hlt
          obtain ⟨b2, off2, u, rfl, d1, hu⟩ := (nums_slice hl.second).parts' hlt
          have htin := HIN.out t (List.mem_of_getElem? hx)
          have hev : evalR W vs L t = (u, 0) := by
            unfold evalR
            rw [if_pos htin]
            have : val W vs L t.toNat = u := by
              unfold allV at hu
              rw [List.getElem?_map, hx] at hu
              simpa using hu
            rw [this]
          have e1 : (u != u) = false := by simp
          have HE := Lib.hid (hl.eval t vs _ (HVS.out.below hl.below) (by have := HVL.out; omega) HVSU.out hev); have HLx := Lib.hid hl
          clear hl hx hu htin hev
          go_wp2_with fail
          go_at_call 11
          refine HE.out.mono ?_
          rintro e w5 ⟨rfl, h5⟩
          obtain ⟨b3, off3, u3, e3, d3, hu3⟩ := (nums_slice h5.second).parts' hlt
          simp only [Option.some.injEq, Addr.mk.injEq, and_true] at e3
          obtain ⟨rfl, rfl⟩ := e3
          obtain rfl : u = u3 := by
            have h1 := (nums_slice HLx.out.second).parts' hlt
            obtain ⟨b4, off4, u4, e4, d4, hu4⟩ := h1
            rw [hu3] at hu4
            simp only [Option.some.injEq, Addr.mk.injEq, and_true] at e4
            obtain ⟨rfl, rfl⟩ := e4
            rw [d1] at d4
            simp at d4 hu4
            rw [d4, hu4]
          have H5 := Lib.hid h5
          clear h5 hu3
          go_wp2
          go_roundw
          case rel => exact ⟨k + 1, by omega, by go_num, H5.out⟩
          case measure => simp [intOf]; omega
        · obtain rfl : k = mA := by omega
          have H5 := Lib.hid hl
          obtain ⟨at', hat⟩ : ∃ at' : Nat, Ai % ((k : Int) + 1) = (at' : Int) := ⟨(Ai % ((k : Int) + 1)).toNat, by have := Int.emod_nonneg Ai (show ((k : Int) + 1) ≠ 0 by omega); omega⟩
          have hat2 : at' ≤ k := by have := Int.emod_lt_of_pos Ai (show (0 : Int) < (k : Int) + 1 by omega); omega
          have hmod := fun wx => mod_any Ai ((k : Int) + 1) (by omega) (by omega) wx
          rw [hat] at hmod
          have HMOD := Lib.hid hmod
          clear hl hmod hat
          go_wp2_with fail
          go_at_call 15
          refine (HMOD.out _).mono ?_
          rintro e w6 ⟨rfl, rfl⟩
          go_upto_region 20 with fail
          have hown0 : OwnInts wr 0 3 .i64 (.slice ao k co) xs := H5.out.third
          have HN2 := HN.out
          have hbad : ¬ AllIn L (xs.take at' ++ [(L.length : Int)] ++ xs.drop at') := fun h => by have := h (L.length : Int) (by simp); omega
          have hly : (xs.take at' ++ [(L.length : Int)] ++ xs.drop at').length ≤ 21 := by rw [List.length_append, List.length_append, List.length_take, List.length_drop]; simp; omega
          have hd : ∀ wx, Below wr.heap.size wr.drew wx → Below wr.heap.size wr wx := fun wx hb => (Below.refl wr.heap.size wr).drew.trans hb
          have hlenc : ∀ wx, Below wr.heap.size wr.drew wx → Calls Try.prog 26 #[.pointer (some ⟨gb, 0, none⟩)] wx fun e w' => e = .returned (.int .i64 L.length) ∧ wx = w' := fun wx hb => len_any (H5.out.gr.later (hd wx hb))
          obtain ⟨_, _, _, s0, -⟩ := H5.out.gr.parts
          have LA := Lib.hid (show ([] : List Int).length + (xs.take at').length ≤ 1000000000 by rw [List.length_nil, List.length_take]; omega)
          have LB := Lib.hid (show (xs.take at').length + [(L.length : Int)].length ≤ 1000000000 by rw [List.length_take, List.length_singleton]; omega)
          have LC := Lib.hid (show (xs.take at' ++ [(L.length : Int)]).length + (xs.drop at').length ≤ 1000000000 by rw [List.length_append, List.length_take, List.length_drop, List.length_singleton]; omega)
          have HD := Lib.hid hd; have HLENC := Lib.hid hlenc; have HBAD := Lib.hid hbad; have HLY := Lib.hid hly
          clear hd hlenc hbad hly
          go_cut [20] (fun v wx => ∃ a m c ys, v = .slice a m c ∧ SliceOf wx .i64 (.slice a m c) ys ∧ ¬ AllIn L ys ∧ ys.length ≤ 21 ∧ Lab w wx [Thing.graph F I gb W 1048576 L])
          case first =>
            rcases hown0.2 with ⟨e0, h0⟩ | ⟨g, cap0, cur, e0, -, hg, hcn, hcm, -⟩
            · simp only [Value.slice.injEq] at e0
              obtain ⟨rfl, rfl, rfl⟩ := e0
              obtain rfl : at' = 0 := by omega
              obtain rfl : xs = [] := List.eq_nil_of_length_eq_zero h0
              have hs1 : ∀ wx, Below wr.heap.size wr wx → SliceOf wx .i64 (.slice none 0 0) (([] : List Int).take 0) := fun wx _ => sliceOf_nil _ _
              have hs2 : ∀ wx, Below wr.heap.size wr wx → SliceOf wx .i64 (.slice none 0 0) (([] : List Int).drop 0) := fun wx _ => sliceOf_nil _ _
              have HS1 := Lib.hid hs1; have HS2 := Lib.hid hs2
              clear hs1 hs2 hown0 h0
              go_region_held3 (fun w' => w'.cell? ⟨gb, 0, none⟩ = some (.int .i64 W)) (first | exact s0 | assumption | go_keep)
                ((first | (refine step_append_base (P := Try.prog) wr.heap.size 32 3 .i64 8 wr.drew (.slice none 0 0) (.slice none 0 0) [] (([] : List Int).take 0) (OwnInts.nil _ _ _ _) (HS1.out _ (Below.refl _ _).drew) (Nat.le_refl _) (by rfl) _ _ (by rfl) Try.underlying32 Try.infoI64 (by decide) (by rfl) (by rfl) LA.out ?_; intro a7 m7 c7 w7 hown7 hb7; have s7 := cell_later (HD.out _ hb7) s0) | (go_at_call 26; refine (HLENC.out _ hb7).mono ?_; rintro e w4 ⟨rfl, rfl⟩) | (refine step_append_base (P := Try.prog) wr.heap.size 32 3 .i64 8 (w7.alloc (.cells #[.int .i64 L.length] 3)) (.slice a7 m7 c7) (.slice (some ⟨w7.heap.size, 0, none⟩) 1 1) (([] : List Int).take 0) [(L.length : Int)] (hown7.below (below_new _ _)) (sliceOf_new w7 .i64 3 [(L.length : Int)] 1) (Nat.le_trans hb7.size (below_new _ _).size) (by rfl) _ _ (by rfl) Try.underlying32 Try.infoI64 (by decide) (by rfl) (by rfl) LB.out ?_; intro a8 m8 c8 w8 hown8 hb8; have hb9 : Below wr.heap.size wr w8 := ((HD.out _ hb7).alloc hb7.size _).trans hb8; have s8 := cell_later hb9 s0) | (refine step_append_base (P := Try.prog) wr.heap.size 32 3 .i64 8 w8 (.slice a8 m8 c8) (.slice none 0 0) (([] : List Int).take 0 ++ [(L.length : Int)]) (([] : List Int).drop 0) hown8 (HS2.out _ hb9) hb9.size (by rfl) _ _ (by rfl) Try.underlying32 Try.infoI64 (by decide) (by rfl) (by rfl) LC.out ?_; intro a9 m9 c9 w9 hown9 hb10; have s9 := cell_later (hb9.trans hb10) s0)))
              have HR := Lib.hid (And.intro hown9 (hb9.trans hb10))
              clear hown7 hb7 hown8 hb8 hown9 hb9 hb10 s0 s7 s8 s9
              (try go_wp2)
              go_meet
              exact ⟨_, _, _, _, rfl, HR.out.1.slice, HBAD.out, HLY.out, (H5.out.swap.drop.swap.drop).later HR.out.2⟩
            · simp only [Value.slice.injEq] at e0
              obtain ⟨rfl, -, rfl⟩ := e0
              have hs1 : ∀ wx, Below wr.heap.size wr wx → SliceOf wx .i64 (.slice (some ⟨g, 0, none⟩) at' co) (xs.take at') := fun wx hb => ((OwnInts.slice hown0).below hb).take at' co hat2
              have i1 : (at' : Int) ≤ (co : Int) := by omega
              have i2 : (at' : Int) ≤ (k : Int) := by omega
              have i3 : (k : Int) ≤ (co : Int) := by omega
              have i4 : co ≤ 9223372036854775807 := by unfold maxLen at hcm; omega
              by_cases hco : co = at'
              · obtain rfl : at' = k := by omega
                subst hco
                have hs2 : ∀ wx ad c, Below wr.heap.size wr wx → SliceOf wx .i64 (.slice ad 0 c) (xs.drop co) := fun wx ad c _ => ⟨ad, 0, c, rfl, by rw [List.length_drop]; omega, fun i hi => by omega⟩
                have HS1 := Lib.hid hs1; have HS2 := Lib.hid hs2
                clear hs1 hs2 hg hown0 hcn hcm
                go_region_held3 (fun w' => w'.cell? ⟨gb, 0, none⟩ = some (.int .i64 W)) (first | exact s0 | assumption | go_keep)
                  ((first | (refine step_append_base (P := Try.prog) wr.heap.size 32 3 .i64 8 wr.drew (.slice none 0 0) (.slice (some ⟨g, 0, none⟩) co co) [] (xs.take co) (OwnInts.nil _ _ _ _) (HS1.out _ (Below.refl _ _).drew) (Nat.le_refl _) (by rfl) _ _ (by rfl) Try.underlying32 Try.infoI64 (by decide) (by rfl) (by rfl) LA.out ?_; intro a7 m7 c7 w7 hown7 hb7; have s7 := cell_later (HD.out _ hb7) s0) | (go_at_call 26; refine (HLENC.out _ hb7).mono ?_; rintro e w4 ⟨rfl, rfl⟩) | (refine step_append_base (P := Try.prog) wr.heap.size 32 3 .i64 8 (w7.alloc (.cells #[.int .i64 L.length] 3)) (.slice a7 m7 c7) (.slice (some ⟨w7.heap.size, 0, none⟩) 1 1) (xs.take co) [(L.length : Int)] (hown7.below (below_new _ _)) (sliceOf_new w7 .i64 3 [(L.length : Int)] 1) (Nat.le_trans hb7.size (below_new _ _).size) (by rfl) _ _ (by rfl) Try.underlying32 Try.infoI64 (by decide) (by rfl) (by rfl) LB.out ?_; intro a8 m8 c8 w8 hown8 hb8; have hb9 : Below wr.heap.size wr w8 := ((HD.out _ hb7).alloc hb7.size _).trans hb8; have s8 := cell_later hb9 s0) | (refine step_append_base (P := Try.prog) wr.heap.size 32 3 .i64 8 w8 (.slice a8 m8 c8) _ (xs.take co ++ [(L.length : Int)]) (xs.drop co) hown8 (HS2.out _ _ _ hb9) hb9.size (by rfl) _ _ (by rfl) Try.underlying32 Try.infoI64 (by decide) (by rfl) (by rfl) LC.out ?_; intro a9 m9 c9 w9 hown9 hb10; have s9 := cell_later (hb9.trans hb10) s0)))
                have HR := Lib.hid (And.intro hown9 (hb9.trans hb10))
                clear hown7 hb7 hown8 hb8 hown9 hb9 hb10 s0 s7 s8 s9
                (try go_wp2)
                go_meet
                exact ⟨_, _, _, _, rfl, HR.out.1.slice, HBAD.out, HLY.out, (H5.out.swap.drop.swap.drop).later HR.out.2⟩
              have hs2 : ∀ wx, Below wr.heap.size wr wx → SliceOf wx .i64 (.slice (some ⟨g, at', none⟩) (k - at') (co - at')) (xs.drop at') := fun wx hb => by have h := ((OwnInts.slice hown0).below hb).drop at' (co - at') hat2; rw [Nat.zero_add] at h; exact h
              have HS1 := Lib.hid hs1; have HS2 := Lib.hid hs2
              clear hs1 hs2 hg hown0 hcn hcm
              go_region_held3 (fun w' => w'.cell? ⟨gb, 0, none⟩ = some (.int .i64 W)) (first | exact s0 | assumption | go_keep)
                ((first | (refine step_append_base (P := Try.prog) wr.heap.size 32 3 .i64 8 wr.drew (.slice none 0 0) (.slice (some ⟨g, 0, none⟩) at' co) [] (xs.take at') (OwnInts.nil _ _ _ _) (HS1.out _ (Below.refl _ _).drew) (Nat.le_refl _) (by rfl) _ _ (by rfl) Try.underlying32 Try.infoI64 (by decide) (by rfl) (by rfl) LA.out ?_; intro a7 m7 c7 w7 hown7 hb7; have s7 := cell_later (HD.out _ hb7) s0) | (go_at_call 26; refine (HLENC.out _ hb7).mono ?_; rintro e w4 ⟨rfl, rfl⟩) | (refine step_append_base (P := Try.prog) wr.heap.size 32 3 .i64 8 (w7.alloc (.cells #[.int .i64 L.length] 3)) (.slice a7 m7 c7) (.slice (some ⟨w7.heap.size, 0, none⟩) 1 1) (xs.take at') [(L.length : Int)] (hown7.below (below_new _ _)) (sliceOf_new w7 .i64 3 [(L.length : Int)] 1) (Nat.le_trans hb7.size (below_new _ _).size) (by rfl) _ _ (by rfl) Try.underlying32 Try.infoI64 (by decide) (by rfl) (by rfl) LB.out ?_; intro a8 m8 c8 w8 hown8 hb8; have hb9 : Below wr.heap.size wr w8 := ((HD.out _ hb7).alloc hb7.size _).trans hb8; have s8 := cell_later hb9 s0) | (refine step_append_base (P := Try.prog) wr.heap.size 32 3 .i64 8 w8 (.slice a8 m8 c8) (.slice (some ⟨g, at', none⟩) (k - at') (co - at')) (xs.take at' ++ [(L.length : Int)]) (xs.drop at') hown8 (HS2.out _ hb9) hb9.size (by rfl) _ _ (by rfl) Try.underlying32 Try.infoI64 (by decide) (by rfl) (by rfl) LC.out ?_; intro a9 m9 c9 w9 hown9 hb10; have s9 := cell_later (hb9.trans hb10) s0)))
              have HR := Lib.hid (And.intro hown9 (hb9.trans hb10))
              clear hown7 hb7 hown8 hb8 hown9 hb9 hb10 s0 s7 s8 s9
              (try go_wp2)
              go_meet
              exact ⟨_, _, _, _, rfl, HR.out.1.slice, HBAD.out, HLY.out, (H5.out.swap.drop.swap.drop).later HR.out.2⟩
          case rest =>
            obtain ⟨a9, m9, c9, ys, rfl, hsy, hbad, hly, hl9⟩ := hcut
            have hall := hl9.all ys vs _ _ hsy (HVS.out.below hl9.below) (by omega) (by have := HVL.out; omega) HVSU.out (allR_out hbad)
            have HALL := Lib.hid hall
            clear hall hsy hbad hl9
            go_wp2_with fail
            go_at_call 12
            refine HALL.out.mono ?_
            rintro e w10 ⟨a10, m10, c10, rfl, h10⟩
            obtain rfl : m10 = 0 := nums_len h10.second
            have H10 := Lib.hid h10
            clear h10
            go_wp2_with (go_at_call 14; refine H10.out.awake11.mono ?_; rintro e w11 ⟨rfl, hb11⟩)
            go_ret
            exact ⟨rfl, hb11⟩
end Go.Proofs.Yteofgmjejocleaa
