/- Package support, of lists of terms of any length that is read. -/
import Derived.Test.YtofbadmjopefpaaSupF
namespace Go.Proofs.Ytofbadmjopefpaa
open Go.RowKit Go.Maps
set_option maxHeartbeats 6400000

section
variable {P : Program}
theorem run_append_src8 (w : World) (base T ty E size bytes : Nat) (z : Value) (ht : P.underlying T = some (.slice E)) (hi : (P.info? E).map (fun i => (i.zero, i.size, i.bytes)) = some (some z, size, bytes)) (hzs : z.cells.size = size) (hsz : 0 < size) (hbt : bytes = 8)
    (v x : Value) (n m : Nat) (xs news : List Value) (hown : w.ownsRow base E size v n xs) (hsrc : SrcOf w x m size news) (h1 : ∀ u ∈ news, u.oneCell' = true) (hn : n + m ≤ 17592186044416) (hbase : base ≤ w.heap.size) :
    ∃ v' w', (Builtin.append_ #[T, T] ty #[v, x]).run P w = .ok v' w' ∧ w'.ownsRow base E size v' (n + m) (xs ++ news) ∧ w.grownBy w' v.ownBlock := by
  obtain ⟨i0, hi0, hz0, hz1, hz2⟩ := info_parts hi
  obtain ⟨a, c, rfl, hl, hs⟩ := hsrc
  rcases Nat.eq_zero_or_pos m with h0 | h0
  · subst h0
    have hnews : news = [] := List.length_eq_zero_iff.1 (by rw [hl]; simp)
    subst hnews
    have hfc : (Builtin.firstCells size 0 (.slice a 0 c)).run P w = .ok #[] w := by
      cases a with
      | none => simp [Builtin.firstCells]
      | some ad => exact run_firstCells_some (P := P) w size 0 ad 0 c [] (by simp) (by simp)
    refine ⟨v, w, ?_, by simpa using hown, ⟨rfl, rfl, rfl, Nat.le_refl _, fun _ _ _ => rfl⟩⟩
    rcases hown.2 with ⟨rfl, rfl⟩ | ⟨g, cap, cur, rfl, hb, hg, hnc, _⟩
    · simp [Builtin.append_, run_underlying ht, sizeOf, typeInfo, hi0, hz1, Builtin.lenOf, hfc]
    · simp [Builtin.append_, run_underlying ht, sizeOf, typeInfo, hi0, hz1, Builtin.lenOf, hfc, hnc, storeCells]
  · obtain ⟨ad, rfl, hc⟩ := hs h0
    have hb : (n + m) * bytes ≤ 140737488355328 := by rw [hbt]; omega
    obtain ⟨v', w', h2, h3, h4, _⟩ := run_append_own (P := P) w base T ty E i0 z size bytes ht hi0 hz0 hz1 hz2 hzs hsz v n xs hown ad m c news hl hc h1 (by unfold maxLen; omega) (by omega) hbase
    exact ⟨v', w', h2, h3, h4⟩
theorem wpList_append_src8 {ops : Array Oper} {rest : List Oper} {o : Oper} {a : Act} {Q : Exit → Act → World → Prop} (T E size bytes : Nat) (base : Nat) (w : World) (v xv : Value) (n m : Nat) (xs news : List Value)
    (hown : w.ownsRow base E size v n xs) (hsrc : SrcOf w xv m size news) (s x : Operand) (hgd : o.guard = none) (ho : o.op = .call { callee := .builtin .append, args := #[s, x], argTypes := #[T, T] })
    (z : Value) (ht : P.underlying T = some (.slice E)) (hi : (P.info? E).map (fun i => (i.zero, i.size, i.bytes)) = some (some z, size, bytes)) (hzs : z.cells.size = size) (hsz : 0 < size) (hbt : bytes = 8)
    (hs : a.eval s = v) (hx : a.eval x = xv) (h1 : ∀ u ∈ news, u.oneCell' = true) (hn : n + m ≤ 17592186044416) (hbase : base ≤ w.heap.size)
    (h : ∀ v' w', w'.ownsRow base E size v' (n + m) (xs ++ news) → w.grownBy w' v.ownBlock → wpList P ops Q rest (a.put o.dst v') w') : wpList P ops Q (o :: rest) a w := by
  obtain ⟨v', w', hr, h2, h3⟩ := run_append_src8 (P := P) w base T o.type E size bytes z ht hi hzs hsz hbt v xv n m xs news hown hsrc h1 hn hbase
  refine wpList_plain hgd fun _ hK => ?_
  unfold Oper.wp execOp
  simp only [ho, resolve, invoke, builtin, Sem.run_bind, Sem.run_pure, Result.andThen_ok, List.map_toArray, List.map_cons, List.map_nil, hs, hx, hr]
  exact hK _ _ (h v' w' h2 h3)
/-- A copy of a list of integers: append onto nil. -/
theorem wpList_append_copy8 {ops : Array Oper} {rest : List Oper} {o : Oper} {a : Act} {Q : Exit → Act → World → Prop} (T E : Nat) (k : IntKind) (bytes : Nat) (base : Nat) (w : World) (xv : Value) (ys : List Int)
    (hsrc : SliceOf w k xv ys) (s x : Operand) (hgd : o.guard = none) (ho : o.op = .call { callee := .builtin .append, args := #[s, x], argTypes := #[T, T] })
    (ht : P.underlying T = some (.slice E)) (hi : (P.info? E).map (fun i => (i.zero, i.size, i.bytes)) = some (some (.int k 0), 1, bytes)) (hbt : bytes = 8)
    (hs : a.eval s = .slice none 0 0) (hx : a.eval x = xv) (hn : ys.length ≤ 17592186044416) (hbase : base ≤ w.heap.size)
    (h : ∀ v' w', OwnInts w' base E k v' ys → Below w.heap.size w w' → wpList P ops Q rest (a.put o.dst v') w') : wpList P ops Q (o :: rest) a w := by
  refine wpList_append_src8 T E 1 bytes base w _ xv 0 ys.length [] _ (World.ownsRow_nil _ _ _ _) hsrc.src s x hgd ho (.int k 0) ht hi rfl (by decide) hbt hs hx ?_ (by omega) hbase ?_
  · intro u hu
    obtain ⟨y, _, rfl⟩ := List.mem_map.1 hu
    rfl
  · intro v' w' h2 h3
    refine h v' w' ?_ ⟨h3.os, h3.tape, h3.output, h3.size, fun k hk => h3.block k hk (by simp [Value.ownBlock])⟩
    unfold OwnInts
    simpa using h2
end
theorem append_block8 {P : Program} {w w' : World} {base T ty E size bytes : Nat} {z : Value} (ht : P.underlying T = some (.slice E)) (hi : (P.info? E).map (fun i => (i.zero, i.size, i.bytes)) = some (some z, size, bytes)) (hbt : bytes = 8)
    {v x v' : Value} {n m : Nat} {xs news : List Value} (hown : w.ownsRow base E size v n xs) (hsrc : SrcOf w x m size news) (h1 : ∀ u ∈ news, u.oneCell' = true) (hm0 : 0 < m) (hn : n + m ≤ 17592186044416)
    (hr : (Builtin.append_ #[T, T] ty #[v, x]).run P w = .ok v' w') : ∀ k, v'.ownBlock = some k → v.ownBlock = some k ∨ w.heap.size ≤ k := by
  obtain ⟨i0, hi0, hz0, hz1, hz2⟩ := info_parts hi
  subst hz1; subst hz2
  obtain ⟨a, c, rfl, hl, hs⟩ := hsrc
  obtain ⟨ad, rfl, hc⟩ := hs hm0
  have hb : (n + m) * i0.bytes ≤ 140737488355328 := by rw [hbt]; omega
  have hlen := hown.1
  intro k hk
  rcases hown.2 with ⟨rfl, rfl⟩ | ⟨g, cap, cur, rfl, hbg, hg, hnc, hcm, hcs, htake⟩
  · have hr' := run_append_nil (P := P) w T ty E i0 z ht hi0 hz0 ad m c news hl hc hm0 (by omega) (by simp only [Nat.zero_add] at hb; omega)
    rw [hr'] at hr
    simp only [Result.ok.injEq] at hr
    rw [← hr.1] at hk
    simp only [Value.ownBlock, Option.some.injEq] at hk
    right; omega
  · by_cases hroom : n + m ≤ cap
    · have hfit : n * i0.size + news.length ≤ cur.size := by rw [hl, hcs, ← Nat.add_mul]; exact Nat.mul_le_mul_right _ hroom
      have hr' := run_append_room (P := P) w T ty E i0 ht hi0 g n cap cur hg ad m c news hl hc h1 hroom hfit
      rw [hr'] at hr
      simp only [Result.ok.injEq] at hr
      rw [← hr.1] at hk
      exact .inl hk
    · have hr' := run_append_grow (P := P) w T ty E i0 z ht hi0 hz0 ⟨g, 0, none⟩ n cap xs hlen (hown.cells (g := g) rfl) ad m c news hl hc (by omega) (by omega) (growslice_fits (by omega) (by omega))
      rw [hr'] at hr
      simp only [Result.ok.injEq] at hr
      rw [← hr.1] at hk
      simp only [Value.ownBlock, Option.some.injEq] at hk
      right; omega
section
variable {w0 wr : World} {ts : List Thing}
theorem wpList_append_lab8 {ops : Array Oper} {rest : List Oper} {o : Oper} {a : Act} {Q : Exit → Act → World → Prop} {ao : Option Addr} {c : Nat} {xv : Value} {xs ys : List Int} (s x : Operand) (h : Lab w0 wr (Thing.ints (.slice ao xs.length c) xs :: ts)) (hsrc : SliceOf wr .i64 xv ys) (hgd : o.guard = none)
    (ho : o.op = .call { callee := .builtin .append, args := #[s, x], argTypes := #[26, 26] }) (hs : a.eval s = .slice ao xs.length c) (hx : a.eval x = xv) (hn : xs.length + ys.length ≤ 17592186044416)
    (hK : ∀ a' c' w', Lab w0 w' (Thing.ints (.slice a' (xs ++ ys).length c') (xs ++ ys) :: ts) → wpList Try.prog ops Q rest (a.put o.dst (.slice a' (xs ++ ys).length c')) w') : wpList Try.prog ops Q (o :: rest) a wr := by
  by_cases hy : ys = []
  · subst hy
    obtain ⟨i0, hi0, hz0, hz1, hz2⟩ := info_parts Try.infoI64
    obtain ⟨a2, c2, hxv, -, -⟩ := hsrc.src
    have hrun := run_append_nothing (P := Try.prog) wr 26 26 o.type 3 i0 Try.underlying26 hi0 ao xs.length c (h.ints_cap.1) xv (by subst hxv; cases a2 with | none => exact Src.ofNil wr Try.underlying26 c2 | some ad => exact Src.ofSlice wr Try.underlying26 ad 0 c2 [] (by simp) (by simp) (by simp))
    refine wpList_plain hgd fun _ hK' => ?_
    unfold Oper.wp execOp
    simp only [ho, resolve, invoke, builtin, Sem.run_bind, Sem.run_pure, Result.andThen_ok, List.map_toArray, List.map_cons, List.map_nil, hs, hx, hrun]
    have := hK ao c wr (by rw [List.append_nil]; exact h)
    rw [List.append_nil] at this
    exact hK' _ _ this
  · have hown : wr.ownsRow 0 3 1 (.slice ao xs.length c) xs.length (xs.map (Value.int .i64)) := h.ints
    have h1 : ∀ u ∈ ys.map (Value.int .i64), u.oneCell' = true := fun u hu => by
      obtain ⟨y, _, rfl⟩ := List.mem_map.1 hu
      rfl
    obtain ⟨v', w', hr, h2, h3⟩ := run_append_src8 (P := Try.prog) wr 0 26 o.type 3 1 8 (.int .i64 0) Try.underlying26 Try.infoI64 rfl (by decide) rfl _ xv xs.length ys.length _ _ hown hsrc.src h1 hn (Nat.zero_le _)
    have hpos : 0 < ys.length := List.length_pos_iff.2 hy
    have blk := append_block8 (P := Try.prog) (T := 26) (ty := o.type) (bytes := 8) (z := .int .i64 0) Try.underlying26 Try.infoI64 rfl hown hsrc.src h1 hpos hn hr
    obtain ⟨a', c', rfl⟩ : ∃ a' c', v' = .slice a' (xs.length + ys.length) c' := by
      rcases h2.2 with ⟨_, h0⟩ | ⟨g, cap, cur, rfl, _⟩
      · omega
      · exact ⟨_, _, rfl⟩
    refine wpList_plain hgd fun _ hK' => ?_
    unfold Oper.wp execOp
    simp only [ho, resolve, invoke, builtin, Sem.run_bind, Sem.run_pure, Result.andThen_ok, List.map_toArray, List.map_cons, List.map_nil, hs, hx, hr]
    have hl : Lab w0 w' (Thing.ints (.slice a' (xs.length + ys.length) c') (xs ++ ys) :: ts) := by
      have hown2 : OwnInts w' 0 3 .i64 (.slice a' (xs.length + ys.length) c') (xs ++ ys) := by
        unfold OwnInts
        rw [List.length_append, List.map_append]
        exact h2
      refine h.turn (s' := Thing.ints (.slice a' (xs.length + ys.length) c') (xs ++ ys)) ⟨h3.os, h3.tape, h3.output, h3.size, fun b hb hn => h3.block b hb (fun e => hn (by simp [Thing.ints, Thing.row, ← e]))⟩ hown2 (fun k hk => ?_) (fun k hk => by simp [Thing.ints, Thing.row] at hk) (fun k hk => ?_)
      · have hk' : (Value.slice a' (xs.length + ys.length) c').ownBlock = some k := by simpa [Thing.ints, Thing.row] using hk
        exact (blk k hk').imp (fun e => by simp [Thing.ints, Thing.row, e]) id
      · rcases hk with hk | hk
        · exact (World.ownsRow.lt hown2 k (by simpa [Thing.ints, Thing.row] using hk)).2
        · simp [Thing.ints, Thing.row] at hk
    have := hK a' c' w' (by rw [List.length_append]; exact hl)
    rw [List.length_append] at this
    exact hK' _ _ this
end
section
variable {w0 wr w' : World} {ts : List Thing} {F I : List Nat} {gb W room : Nat} {L : List PNode}
set_option maxRecDepth 100000 in
theorem occur8 (h : Lab w0 wr (Thing.graph F I gb W room L :: ts)) (v : Value) (us : List Int) (hv : SliceOf wr .i64 v us) (hn : us.length + 3 * L.length ≤ 17592186044400) :
    Calls Try.prog 32 #[.pointer (some ⟨gb, 0, none⟩), v] wr (OccPost w0 wr F I gb W room L ts us) := by
  have hll : L.length ≤ 1048576 := by have := h.gr.len; have := h.gr.r2; omega
  have hwf := h.gr.wf
  obtain ⟨va, n, vc, rfl, hvn, -⟩ := hv.parts
  have hlen : Calls Try.prog 25 #[.pointer (some ⟨gb, 0, none⟩)] wr fun e w' => e = .returned (.int .i64 L.length) ∧ wr = w' := len_any h.gr
  have HL := Lib.hid h; have HV := Lib.hid (And.intro hv hvn); have HLEN := Lib.hid hlen; have HWF := Lib.hid hwf
  have hn' : n + 3 * L.length ≤ 17592186044400 := by omega
  clear h hv hvn hlen hn hwf
  go_enter Try.func32, Try.ntmps32
  go_wp2
  go_step3
  go_wp2
  obtain ⟨w1, hw1⟩ : ∃ w1, w1 = wr := ⟨_, rfl⟩
  have HW1 := Lib.hid hw1
  clear hw1
  go_loopw [19] (fun i wx => ∃ k : Nat, k ≤ n ∧ i = .int .i64 k ∧ wx = w1 ∧ InL L (us.take k)) (fun i _ => n - (intOf i).toNat)
  case atStart => exact ⟨0, by omega, rfl, HW1.out.symm, by simp [InL]⟩
  case round =>
    obtain ⟨k, hk, rfl, hwx, hin⟩ := hrel
    have hwx2 := hwx.trans HW1.out
    clear hwx
    subst hwx2
    by_cases hlt : k < n
    · have hlt' : (k : Int) < (n : Int) := by omega
      obtain ⟨b, off, x, rfl, hc, hx⟩ := HV.out.1.parts' hlt
      have hnext : us.take (k + 1) = us.take k ++ [x] := by rw [List.take_add_one, hx]; rfl
      have hmem := List.mem_of_getElem? hx
      have HN := Lib.hid (And.intro hin (And.intro hnext hmem))
      clear hin hnext hmem hx
      by_cases hxr : 0 ≤ x ∧ x < (L.length : Int)
      · have x0 : ¬ x < 0 := by omega
        have x1 : ¬ (L.length : Int) ≤ x := by omega
        go_wp2_with (go_at_call 25; refine HLEN.out.mono ?_; rintro e w2 ⟨rfl, rfl⟩)
        go_roundw
        case rel =>
          refine ⟨k + 1, by omega, by go_num, HW1.out.symm, ?_⟩
          rw [HN.out.2.1]
          intro t ht
          rcases List.mem_append.1 ht with h1 | h1
          · exact HN.out.1 t h1
          · rw [List.mem_singleton.1 h1]; exact hxr
        case measure => simp [intOf]; omega
      · have hno : ¬ InL L us := fun h => hxr (h x HN.out.2.2)
        by_cases x0 : x < 0
        · go_wp2_with (go_at_call 25; refine HLEN.out.mono ?_; rintro e w2 ⟨rfl, rfl⟩)
          rw [Exit.noGoto_ret]
          go_ret2
          exact ⟨fun h => absurd h hno, fun _ => ⟨rfl, rfl⟩⟩
        · have x1 : (L.length : Int) ≤ x := by omega
          go_wp2_with (go_at_call 25; refine HLEN.out.mono ?_; rintro e w2 ⟨rfl, rfl⟩)
          rw [Exit.noGoto_ret]
          go_ret2
          exact ⟨fun h => absurd h hno, fun _ => ⟨rfl, rfl⟩⟩
    · obtain rfl : k = n := by omega
      rw [List.take_of_length_le (by rw [HV.out.2]; exact Nat.le_refl _)] at hin
      have HIN := Lib.hid hin
      clear hin hk hlt
      obtain ⟨mb, hmb⟩ : ∃ mb, wr.heap.size = mb := ⟨_, rfl⟩
      have hl2 := HL.out.new_map 3 .i64
      rw [hmb] at hl2
      have HL2 := Lib.hid hl2
      have hsl := HV.out.1.below (below_new wr (.map #[] 0))
      have HSL := Lib.hid hsl
      have hmm := @run_makeMap Try.prog
      clear hl2 hsl
      go_upto_region 10 with fail
      clear hmb hmm
      refine wp_abs (fun w2 => Lab w0 w2 (Thing.mapf 3 .i64 mb (fun _ => none) 0 :: Thing.graph F I gb W room L :: ts) ∧ SliceOf w2 .i64 (.slice va k vc) us) ⟨HL2.out, HSL.out⟩ ?_
      clear HL2 HSL HLEN
      rintro w2 ⟨hl2, hsl⟩
      have hul : us.length ≤ 17592186044416 := by have := HV.out.2; omega
      have HL2 := Lib.hid hl2
      clear hl2
      go_wp2_with (at_builtin; refine wpList_append_copy8 26 3 .i64 8 _ _ _ us hsl _ _ rfl rfl Try.underlying26 Try.infoI64 rfl rfl rfl hul (Nat.le_refl _) ?_; intro v3 w3 hown3 hb3)
      go_step3
      have hl3 := (HL2.out.new_ints hb3 hown3).swap
      obtain ⟨a3, m3, c3, rfl⟩ := hown3.val
      obtain rfl : m3 = us.length := hl3.swap.ints_cap.2
      have HL3 := Lib.hid hl3
      clear hl3 hown3 hb3 hsl HL2
      have hul9 : us.length + 3 * L.length ≤ 17592186044400 := by have := HV.out.2; omega
      go_wp2
      go_loopw [9] (fun v wx => ∃ st a c S f, v = .slice a st.length c ∧ SupInv L us S st ∧ NodeF L S f ∧ st.length ≤ us.length + 3 * cntS L S ∧ Lab w0 wx (Thing.mapf 3 .i64 mb f (cntS L S) :: Thing.ints (.slice a st.length c) st :: Thing.graph F I gb W room L :: ts)) (fun v wx => supMeas L.length mb v wx)
      case atStart => exact ⟨us, a3, c3, fun _ => false, fun _ => none, rfl, SupInv.start HIN.out, NodeF.start L, by omega, by rw [cntS_none]; exact HL3.out⟩
      case round =>
        obtain ⟨st, a, c, S, f, rfl, hinv, hf, hst, hl⟩ := hrel
        clear HL3
        have hmf : MapF Try.prog 3 .i64 wr mb f (cntS L S) := hl.mapf
        rcases List.eq_nil_or_concat st with rfl | ⟨xs, t, rfl⟩
        · have hS := hinv.end_
          subst hS
          have HF := Lib.hid hf; have HL4 := Lib.hid hl
          clear hf hl hinv hmf
          go_wp2
          rw [Exit.noGoto_ret]
          go_ret2
          exact ⟨fun _ => ⟨mb, f, rfl, HF.out, HL4.out.swap.drop⟩, fun h => absurd HIN.out h⟩
        · rw [List.concat_eq_append] at hinv hst hl ⊢
          have hlen1 : (xs ++ [t]).length = xs.length + 1 := by simp
          rw [hlen1] at hst hl ⊢
          have ht := hinv.st_in t (by simp)
          obtain ⟨tn, rfl⟩ := Int.eq_ofNat_of_zero_le ht.1
          have htl : tn < L.length := by omega
          have hown : OwnInts wr 0 3 .i64 (.slice a (xs.length + 1) c) (xs ++ [(tn : Int)]) := hl.second
          obtain ⟨g, cap, e⟩ := own_some' hown (by simp)
          simp only [Value.slice.injEq] at e
          obtain ⟨rfl, -, rfl⟩ := e
          have hcap := (hl.swap.ints_cap).1
          have hcap' : (xs.length : Int) + 1 ≤ (c : Int) := by omega
          have d0 := (OwnInts.slice hown).at (i := xs.length) (q := (tn : Int)) (by simp)
          rw [Nat.zero_add] at d0
          have hcs := cntS_le (L := L) (S := S)
          have hxl : xs.length ≤ 17592186044416 := by omega
          have hlp := hl.swap.pop
          have hmeas : supMeas L.length mb (.slice (some ⟨g, 0, none⟩) (xs.length + 1) c) wr = 4 * (L.length - cntS L S) + (xs.length + 1) := by unfold supMeas; rw [mlen_of hmf]; rfl
          cases hS : S tn with
          | true =>
            obtain ⟨n, a', m', c', -, hfn⟩ := hf.has tn hS
            have hask := hmf.hit (T := 74) (E := 54) Try.underlying3 Try.underlying74 (k := (tn : Int)) (wf_i64 (by omega) (by omega)) hfn true
            have HINV := Lib.hid (hinv.skip (by rw [Int.toNat_natCast]; exact hS)); have HF := Lib.hid hf; have HL4 := Lib.hid hlp.swap; have HM := Lib.hid hmeas
            clear hinv hf hl hlp hmf hown hmeas hfn hS ht
            go_wp2
            go_roundw
            case rel => exact ⟨xs, _, c, S, f, rfl, HINV.out, HF.out, by omega, HL4.out.later (below_new _ _)⟩
            case measure =>
              have h2 := fun o => supMeas_of (N := L.length) (HL4.out.later (below_new wr o)).mapf (some ⟨g, 0, none⟩) xs.length c
              rw [HM.out, h2]
              omega
          | false =>
            have hfn : f (tn : Int) = none := by
              cases e : f (tn : Int) with
              | none => rfl
              | some v =>
                obtain ⟨j, h1, h2⟩ := hf.only _ _ e
                obtain rfl : tn = j := by omega
                rw [hS] at h2; cases h2
            have hask := hmf.miss (T := 74) (E := 54) Try.underlying3 Try.underlying74 (zeroNode _) (k := (tn : Int)) (wf_i64 (by omega) (by omega)) hfn true
            obtain ⟨nd, hi⟩ : ∃ nd, L[tn]? = some nd := ⟨_, List.getElem?_eq_getElem htl⟩
            have hok := HWF.out.ok nd (List.mem_of_getElem? hi)
            have hcm := cntS_mark hS htl
            have hcm2 := cntS_le (L := L) (S := mark S tn)
            obtain ⟨p, hp⟩ : ∃ p, wr.heap.size = p := ⟨_, rfl⟩
            have hl4 := hlp.swap.alloc #[.int .u8 0, .int .u64 0, .slice none 0 0] 54
            rw [hp] at hl4
            have hvis := hinv.visit HWF.out
            rw [Int.toNat_natCast, argsOf_at hi] at hvis
            have HINV := Lib.hid hvis; have HF := Lib.hid hf; have HL4 := Lib.hid hl4.drop; have HM := Lib.hid hmeas; have HI := Lib.hid hi; have HOK := Lib.hid hok; have HCM := Lib.hid hcm; have HS := Lib.hid hS
            clear hinv hf hl hlp hl4 hmf hown hmeas hfn hS ht hvis hi hok hcm
            go_upto_region 16 with fail
            clear hp hask d0
            refine wp_abs (fun w5 => Lab w0 w5 (Thing.mapf 3 .i64 mb f (cntS L S) :: Thing.ints (.slice (some ⟨g, 0, none⟩) xs.length c) xs :: Thing.graph F I gb W room L :: ts)) HL4.out ?_
            clear HL4
            rintro w5 hl5
            have HL5 := Lib.hid hl5.rot3
            clear hl5
            go_wp2_with fail
            go_at_call 23
            refine (HL5.out.node_at tn nd HI.out).mono ?_
            rintro e w6 ⟨aa, am, ac, rfl, hl6⟩
            obtain ⟨q, hq⟩ : ∃ q, w6.heap.size = q := ⟨_, rfl⟩
            have hl7 := hl6.alloc #[.int .u8 nd.1, .int .u64 nd.2.1, .slice aa am ac] 54
            rw [hq] at hl7
            have HL7 := Lib.hid hl7.rot4
            clear hl6 hl7 HL5
            go_upto_region 17 with fail
            clear hq
            refine wp_abs (fun w7 => Lab w0 w7 (Thing.mapf 3 .i64 mb f (cntS L S) :: Thing.box q 54 #[.int .u8 nd.1, .int .u64 nd.2.1, .slice aa am ac] :: Thing.graph F I gb W room L :: Thing.ints (.slice aa am ac) nd.2.2 :: Thing.ints (.slice (some ⟨g, 0, none⟩) xs.length c) xs :: ts)) HL7.out ?_
            clear HL7
            rintro w7 hl7
            obtain ⟨x0, x1, x2⟩ := cells3 hl7.box2
            obtain ⟨hput, hl8⟩ := Lab.mput (T := 74) (E := 54) (k := (tn : Int)) hl7 Try.underlying3 Try.underlying74 (wf_i64 (by omega) (by omega)) (.agg #[.int .u8 nd.1, .int .u64 nd.2.1, .slice aa am ac])
            have HL8 := Lib.hid hl8
            clear hl7 hl8
            go_upto_region 18 with fail
            clear hput x0 x1 x2
            refine wp_abs (fun w8 => Lab w0 w8 (Thing.mapf 3 .i64 mb (fun j => if j = (tn : Int) then some (.agg #[.int .u8 nd.1, .int .u64 nd.2.1, .slice aa am ac]) else f j) (cntS L (mark S tn)) :: Thing.box q 54 #[.int .u8 nd.1, .int .u64 nd.2.1, .slice aa am ac] :: Thing.graph F I gb W room L :: Thing.ints (.slice aa am ac) nd.2.2 :: Thing.ints (.slice (some ⟨g, 0, none⟩) xs.length c) xs :: ts)) ?_ ?_
            · have hfn : f (tn : Int) = none := by
                cases e : f (tn : Int) with
                | none => rfl
                | some v =>
                  obtain ⟨j, h1, h2⟩ := HF.out.only _ _ e
                  obtain rfl : tn = j := by omega
                  rw [HS.out] at h2; cases h2
              have := HL8.out
              rw [hfn] at this
              rw [HCM.out]
              exact this
            clear HL8
            rintro w8 hl8
            obtain ⟨x0, x1, x2⟩ := cells3 hl8.box2
            have hsrc : SliceOf w8 .i64 (.slice aa am ac) nd.2.2 := OwnInts.slice hl8.fourth
            have hxa : xs.length + nd.2.2.length ≤ 17592186044416 := by have := HOK.out.2.2; have := aryN_le nd.1; omega
            have HL9 := Lib.hid hl8.rot5
            clear hl8 x0 x1
            go_wp2_with (at_builtin; refine wpList_append_lab8 (.tmp 65) (.tmp 67) HL9.out hsrc rfl rfl rfl rfl hxa ?_; intro a9 c9 w9 hl9)
            have HL10 := Lib.hid (hl9.swap.subl (ts' := Thing.mapf 3 .i64 mb (fun j => if j = (tn : Int) then some (.agg #[.int .u8 nd.1, .int .u64 nd.2.1, .slice aa am ac]) else f j) (cntS L (mark S tn)) :: Thing.ints (.slice a9 (xs ++ nd.2.2).length c9) (xs ++ nd.2.2) :: Thing.graph F I gb W room L :: ts) (.cons_cons _ (.cons_cons _ (.cons _ (.cons_cons _ (.cons _ (List.Sublist.refl _)))))))
            clear hl9 HL9 hsrc x2
            go_roundw
            case rel => exact ⟨xs ++ nd.2.2, a9, c9, mark S tn, _, by rw [List.length_append], HINV.out, HF.out.put HI.out aa am ac, by rw [List.length_append, HCM.out]; have := HOK.out.2.2; have := aryN_le nd.1; omega, HL10.out⟩
            case measure =>
              have h2 := supMeas_of (N := L.length) HL10.out.mapf a9 (xs ++ nd.2.2).length c9
              rw [List.length_append] at h2
              rw [HM.out, h2, HCM.out]
              rw [HCM.out] at hcm2
              have := HOK.out.2.2
              have := aryN_le nd.1
              omega
set_option maxRecDepth 100000 in
theorem Lab.sizeOf8 (h : Lab w0 wr (Thing.graph F I gb W room L :: ts)) (v : Value) (us : List Int) (hv : SliceOf wr .i64 v us) (hn : us.length + 3 * L.length ≤ 17592186044400) :
    Calls Try.prog 14 #[.pointer (some ⟨gb, 0, none⟩), v] wr fun e w' => (InL L us → e = .returned (.tuple #[.int .i64 (cntS L (occS L us)), .int .i64 0]) ∧ Lab w0 w' (Thing.graph F I gb W room L :: ts)) ∧ (¬ InL L us → e = .returned (.tuple #[.int .i64 0, .int .i64 3]) ∧ wr = w') := by
  have hocc := occur8 h v us hv hn
  have HO := Lib.hid hocc
  clear h hv hn hocc
  by_cases hin : InL L us
  · go_enter Try.func14, Try.ntmps14
    go_wp2_with fail
    go_at_call 32
    refine HO.out.mono ?_
    rintro e w2 ⟨h1, -⟩
    obtain ⟨mb, f, rfl, hf, hl⟩ := h1 hin
    have hlen := MapF.len (T := 74) hl.mapf Try.underlying74 3
    have HL := Lib.hid hl.drop
    clear hl hf h1
    go_wp2
    go_ret2
    exact ⟨fun _ => ⟨rfl, HL.out⟩, fun h => absurd hin h⟩
  · have hl : ∀ w ty, (Builtin.len_ #[74] ty #[.map none]).run Try.prog w = .ok (.int .i64 0) w := fun w ty => by kernel_rfl
    go_enter Try.func14, Try.ntmps14
    go_wp2_with fail
    go_at_call 32
    refine HO.out.mono ?_
    rintro e w2 ⟨-, h2⟩
    obtain ⟨rfl, rfl⟩ := h2 hin
    go_wp2
    go_ret2
    exact ⟨fun h => absurd h hin, fun _ => ⟨rfl, rfl⟩⟩
set_option maxRecDepth 100000 in
theorem Lab.vars8 (h : Lab w0 wr (Thing.graph F I gb W room L :: ts)) (hg : GoodL W L) (v : Value) (us : List Int) (hv : SliceOf wr .i64 v us) (hn : us.length + 3 * L.length ≤ 17592186044400) :
    Calls Try.prog 13 #[.pointer (some ⟨gb, 0, none⟩), v] wr fun e w' =>
      (InL L us → ∃ a c, e = .returned (.tuple #[.slice a (varsO L (occS L us)).length c, .int .i64 0]) ∧ Lab w0 w' (Thing.ints (.slice a (varsO L (occS L us)).length c) (varsO L (occS L us)) :: Thing.graph F I gb W room L :: ts)) ∧
      (¬ InL L us → e = .returned (.tuple #[.slice none 0 0, .int .i64 3]) ∧ wr = w') := by
  have hocc := occur8 h v us hv hn
  have hll : L.length ≤ 1048576 := by have := h.gr.len; have := h.gr.r2; omega
  have HO := Lib.hid hocc; have HG := Lib.hid hg
  clear h hv hn hocc hg
  by_cases hin : InL L us
  · go_enter Try.func13, Try.ntmps13
    go_wp2_with fail
    go_at_call 32
    refine HO.out.mono ?_
    rintro e w2 ⟨h1, -⟩
    obtain ⟨mb, f, rfl, hf, hl⟩ := h1 hin
    clear h1 HO
    have HF := Lib.hid hf; have HL := Lib.hid hl
    obtain ⟨mm, hm1, hm2, hm3, hm4⟩ := hl.mapf
    have hmn : (mm.map (·.1)).Nodup := by obtain ⟨_, _, _, _, _, h4, _⟩ := hm1; exact h4
    have hml : mm.length ≤ 1048576 := by rw [hm2]; exact Nat.le_trans cntS_le hll
    have HM1 := Lib.hid hm1; have HM3 := Lib.hid hm3; have HM4 := Lib.hid hm4; have HMN := Lib.hid hmn; have HML := Lib.hid hml
    clear hf hl hm1 hm2 hm3 hm4 hmn hml
    go_wp2_with (at_range; refine wpList_range_map rfl _ 74 54 rfl Try.underlying74 rfl HM1.out ?_; intro w5 hrg hb5 hs5)
    go_frame
    have hl5 := (HL.out.rng_start hrg hb5).nil_ints.swap
    obtain ⟨r, hr⟩ : ∃ r, w2.heap.size = r := ⟨_, rfl⟩
    rw [hr] at hl5 ⊢
    have HL5 := Lib.hid hl5
    clear hl5 hrg hb5 hs5 hr HM1 HL
    go_loopw [8] (fun v wx => ∃ d a c, v = .slice a (outD L d).length c ∧ Lab w0 wx (Thing.rng mb r mm d :: Thing.ints (.slice a (outD L d).length c) (outD L d) :: Thing.graph F I gb W room L :: ts)) (fun _ wx => rngLeft wx mb r)
    case atStart => exact ⟨[], none, 0, rfl, HL5.out⟩
    case round =>
      obtain ⟨d, a, c, rfl, hlab⟩ := hrel
      clear HL5
      have HLR := Lib.hid hlab
      have hrg := hlab.rng
      have HRG := Lib.hid hrg
      clear hlab hrg
      go_wp2_with (at_next; refine wpList_next_map rfl _ rfl rfl HRG.out ?_ ?_)
      · intro hperm
        have hpo := outD_end HF.out HMN.out HM3.out HM4.out hperm
        have hso : (outD L d).mergeSort leI = varsO L (occS L us) := sort_perm hpo
        have hln : (outD L d).length = (varsO L (occS L us)).length := by rw [← hso]; simp
        have hlo : (outD L d).length ≤ 1000000000 := by have := varsO_len (L := L) (S := occS L us); omega
        have hsort := sort_lab HLR.out.drop hlo
        rw [hso, hln] at hsort
        rw [hln]
        have HSORT := Lib.hid hsort
        clear hperm hpo hso hln hlo hsort HLR HRG
        go_wp2_with fail
        go_at_call 33
        refine HSORT.out.mono ?_
        rintro e w7 ⟨rfl, hl7⟩
        have HL7 := Lib.hid hl7
        clear hl7
        go_wp2
        go_ret2
        exact ⟨fun _ => ⟨_, _, rfl, HL7.out⟩, fun h => absurd hin h⟩
      · intro kk vv w6 l0 hmem hrg6 hlt6 hbut6 hen6
        obtain ⟨j, rfl, hj⟩ := rng_key HM3.out ⟨l0, hmem⟩
        obtain ⟨jn, rfl, hjs⟩ := HF.out.only _ _ hj
        obtain ⟨n, a', m', c', hln, hfj⟩ := HF.out.has jn hjs
        have hvv := hfj.symm.trans hj
        simp only [Option.some.injEq] at hvv
        subst hvv
        have hdl : d.length ≤ 1048576 := by have h1 := hmem.length_eq; have h2 := HML.out; simp only [List.length_append, List.length_cons] at h1; omega
        have hol := outD_len (L := L) (d := d)
        have hl6 := HLR.out.rng_next hrg6 hbut6
        obtain ⟨q, hq⟩ : ∃ q, w6.heap.size = q := ⟨_, rfl⟩
        have hl7 := hl6.alloc #[.int .u8 n.1, .int .u64 n.2.1, .slice a' m' c'] 54
        rw [hq] at hl7
        have HL7 := Lib.hid hl7; have HLN := Lib.hid hln
        clear hl6 hl7 hj hmem hrg6 hbut6 HRG hfj hjs hln hlt6
        go_upto_region 8 with fail
        clear hq hen6
        have hm0 := rngLeft_of HLR.out.rng
        have HM0 := Lib.hid hm0
        clear hm0 HLR
        refine wp_abs (fun w7 => Lab w0 w7 (Thing.box q 54 #[.int .u8 n.1, .int .u64 n.2.1, .slice a' m' c'] :: Thing.rng mb r mm (d ++ [(.int .i64 (jn : Int), .agg #[.int .u8 n.1, .int .u64 n.2.1, .slice a' m' c'])]) :: Thing.ints (.slice a (outD L d).length c) (outD L d) :: Thing.graph F I gb W room L :: ts)) HL7.out ?_
        clear HL7
        rintro w7 hl7
        obtain ⟨x0, x1, x2⟩ := cells3 hl7.box1
        have hgood := HG.out n (List.mem_of_getElem? HLN.out)
        by_cases h1 : n.1 = 1
        · have hb : (n.2.1 : Int) ≤ 4194303 := by unfold NodeGood at hgood; omega
          have h1' : ((n.1 : Int) == 1) = true := by rw [h1]; rfl
          have hadd := outD_add (d := d) (v := .agg #[.int .u8 n.1, .int .u64 n.2.1, .slice a' m' c']) (varN_some.2 ⟨n, HLN.out, h1, rfl⟩)
          have hl8 := (hl7.drop.swap.alloc #[.int .i64 (n.2.1 : Int)] 3).swap
          have hsrc := sliceOf_new w7 .i64 3 [(n.2.1 : Int)] 1
          have hlx : (outD L d).length + [(n.2.1 : Int)].length ≤ 1000000000 := by simp only [List.length_singleton]; omega
          have HL8 := Lib.hid hl8; have HADD := Lib.hid hadd; have HSRC := Lib.hid hsrc
          clear hl7 hl8 hadd hgood hsrc
          go_wp2_with (at_builtin; refine wpList_append_lab (.tmp 29) (.tmp 33) HL8.out HSRC.out rfl rfl rfl rfl hlx ?_; intro a9 c9 w9 hl9)
          have HL9 := Lib.hid (hl9.subl (ts' := Thing.ints (.slice a9 (outD L d ++ [(n.2.1 : Int)]).length c9) (outD L d ++ [(n.2.1 : Int)]) :: Thing.rng mb r mm (d ++ [(.int .i64 (jn : Int), .agg #[.int .u8 n.1, .int .u64 n.2.1, .slice a' m' c'])]) :: Thing.graph F I gb W room L :: ts) (.cons_cons _ (.cons _ (List.Sublist.refl _)))).swap
          clear hl9 HL8 HSRC x0 x1 x2
          go_roundw
          case rel => exact ⟨_, a9, c9, by rw [HADD.out, List.length_append]; rfl, by rw [HADD.out]; exact HL9.out⟩
          case measure =>
            have h2 := rngLeft_of HL9.out.rng
            have h3 := HM0.out
            rw [List.length_append] at h2
            simp only [List.length_singleton] at h2
            omega
        · have h1' : ((n.1 : Int) == 1) = false := by rw [beq_eq_false_iff_ne]; omega
          have hno : varN L jn = none := by
            cases e : varN L jn with
            | none => rfl
            | some x =>
              obtain ⟨n', e1, e2, -⟩ := varN_some.1 e
              rw [HLN.out] at e1
              cases e1
              exact absurd e2 h1
          have hadd := outD_not (d := d) (v := .agg #[.int .u8 n.1, .int .u64 n.2.1, .slice a' m' c']) hno
          have HL8 := Lib.hid hl7.drop; have HADD := Lib.hid hadd
          clear hl7 hadd hgood hno
          go_wp2
          go_roundw
          case rel => exact ⟨_, a, c, by rw [HADD.out], by rw [HADD.out]; exact HL8.out⟩
          case measure =>
            have h2 := rngLeft_of HL8.out.rng
            have h3 := HM0.out
            rw [List.length_append] at h2
            simp only [List.length_singleton] at h2
            omega
  · go_enter Try.func13, Try.ntmps13
    go_wp2_with fail
    go_at_call 32
    refine HO.out.mono ?_
    rintro e w2 ⟨-, h2⟩
    obtain ⟨rfl, rfl⟩ := h2 hin
    go_wp2
    go_ret2
    exact ⟨fun h => absurd h hin, fun _ => ⟨rfl, rfl⟩⟩
end
end Go.Proofs.Ytofbadmjopefpaa
