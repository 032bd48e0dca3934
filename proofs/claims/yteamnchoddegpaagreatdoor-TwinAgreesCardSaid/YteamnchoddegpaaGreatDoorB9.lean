/- SupA, SupS, SupB, SupC, SupL, SupJ, SupM, SupN, SimpA: joined by wip/bundle.py. -/
import Derived.Test.YteamnchoddegpaaGreatDoorB1
import Derived.Test.YteamnchoddegpaaGreatDoorB2
import Derived.Test.YteamnchoddegpaaGreatDoorB3
import Derived.Test.YteamnchoddegpaaGreatDoorB4
import Derived.Test.YteamnchoddegpaaGreatDoorB5
import Derived.Test.YteamnchoddegpaaGreatDoorB6
import Derived.Test.YteamnchoddegpaaGreatDoorB7
import Derived.Test.YteamnchoddegpaaGreatDoorB8
import Derived.WalkSmall
import Derived.Deep.Upon
import Derived.WalkMore
import Derived.Ground.NamesProg
import Derived.Shelf.Sort.Plain
import Derived.Shelf.Slices.In.SortNone
import Derived.Lib.SortBridge
import Derived.Sort.OwnSortedInts
import Derived.Laws.CopyOwn
import Derived.Deep.DrawnRows
import Derived.BigQuiet
namespace Go.Proofs.YteamnchoddegpaaGreatDoor
open Go.RowKit Go.Maps
set_option maxHeartbeats 3200000
section
variable {w0 wr w' : World} {ts : List Thing} {F I : List Nat} {gb W room : Nat} {L : List PNode}
theorem own_some' {w : World} {B E : Nat} {k : IntKind} {v : Value} {xs : List Int} (h : OwnInts w B E k v xs) (h0 : xs ≠ []) : ∃ g cap, v = .slice (some ⟨g, 0, none⟩) xs.length cap := by
  rcases h.2 with ⟨-, h1⟩ | ⟨g, cap, cur, rfl, -⟩
  · exact absurd (List.length_eq_zero_iff.1 h1) h0
  · exact ⟨g, cap, rfl⟩
/-- The last one is let go. -/
theorem Lab.pop {a : Option Addr} {c : Nat} {xs : List Int} {t : Int} (h : Lab w0 wr (Thing.ints (.slice a (xs.length + 1) c) (xs ++ [t]) :: ts)) : Lab w0 wr (Thing.ints (.slice a xs.length c) xs :: ts) := by
  refine h.say (s' := Thing.ints (.slice a xs.length c) xs) ?_ (fun k hk => by simp [Thing.ints, Thing.row] at hk) (fun hh => ?_)
  · cases a <;> rfl
  · have hh' : OwnInts wr 0 3 .i64 (.slice a (xs.length + 1) c) (xs ++ [t]) := hh
    obtain ⟨g, cap, e⟩ := own_some' hh' (by simp)
    simp only [Value.slice.injEq] at e
    obtain ⟨rfl, -, rfl⟩ := e
    unfold OwnInts at hh'
    rw [List.length_append, List.map_append] at hh'
    exact ownsRow_pop (by rw [List.length_map, Nat.mul_one]) hh'
theorem Lab.ints_cap {a : Option Addr} {m c : Nat} {xs : List Int} (h : Lab w0 wr (Thing.ints (.slice a m c) xs :: ts)) : m ≤ c ∧ m = xs.length := by
  rcases h.ints.2 with ⟨h1, h2⟩ | ⟨g, cap, cur, h1, -, -, h2, -⟩
  · simp only [Value.slice.injEq] at h1; omega
  · simp only [Value.slice.injEq] at h1; omega
/-- A list is appended to an own one. -/
theorem wpList_append_lab {ops : Array Oper} {rest : List Oper} {o : Oper} {a : Act} {Q : Exit → Act → World → Prop} {ao : Option Addr} {c : Nat} {xv : Value} {xs ys : List Int} (s x : Operand) (h : Lab w0 wr (Thing.ints (.slice ao xs.length c) xs :: ts)) (hsrc : SliceOf wr .i64 xv ys) (hgd : o.guard = none)
    (ho : o.op = .call { callee := .builtin .append, args := #[s, x], argTypes := #[24, 24] }) (hs : a.eval s = .slice ao xs.length c) (hx : a.eval x = xv) (hn : xs.length + ys.length ≤ 1000000000)
    (hK : ∀ a' c' w', Lab w0 w' (Thing.ints (.slice a' (xs ++ ys).length c') (xs ++ ys) :: ts) → wpList Tryz.prog ops Q rest (a.put o.dst (.slice a' (xs ++ ys).length c')) w') : wpList Tryz.prog ops Q (o :: rest) a wr := by
  by_cases hy : ys = []
  · subst hy
    obtain ⟨i0, hi0, hz0, hz1, hz2⟩ := info_parts Tryz.infoI64
    obtain ⟨a2, c2, hxv, -, -⟩ := hsrc.src
    have hrun := run_append_nothing (P := Tryz.prog) wr 24 24 o.type 3 i0 Tryz.underlying24 hi0 ao xs.length c (h.ints_cap.1) xv (by subst hxv; cases a2 with | none => exact Src.ofNil wr Tryz.underlying24 c2 | some ad => exact Src.ofSlice wr Tryz.underlying24 ad 0 c2 [] (by simp) (by simp) (by simp))
    refine wpList_plain hgd fun _ hK' => ?_
    unfold Oper.wp execOp
    simp only [ho, resolve, invoke, builtin, Sem.run_bind, Sem.run_pure, Result.andThen_ok, List.map_toArray, List.map_cons, List.map_nil, hs, hx, hrun]
    have := hK ao c wr (by rw [List.append_nil]; exact h)
    rw [List.append_nil] at this
    exact hK' _ _ this
  · have hown : wr.ownsRow 0 3 1 (.slice ao xs.length c) xs.length (xs.map (Value.int .i64)) := h.ints
    have h1 : ∀ u ∈ ys.map (Value.int .i64), u.oneCell' = true := fun u hu => by
      obtain ⟨y, _, rfl⟩ := List.mem_map.1 hu
      rfl
    obtain ⟨v', w', hr, h2, h3⟩ := run_append_src (P := Tryz.prog) wr 0 24 o.type 3 1 8 (.int .i64 0) Tryz.underlying24 Tryz.infoI64 rfl (by decide) (by decide) _ xv xs.length ys.length _ _ hown hsrc.src h1 hn (Nat.zero_le _)
    have hpos : 0 < ys.length := List.length_pos_iff.2 hy
    have blk := append_block (P := Tryz.prog) (T := 24) (ty := o.type) (bytes := 8) (z := .int .i64 0) Tryz.underlying24 Tryz.infoI64 (by decide) hown hsrc.src h1 hpos hn hr
    obtain ⟨a', c', rfl⟩ : ∃ a' c', v' = .slice a' (xs.length + ys.length) c' := by
      rcases h2.2 with ⟨_, h0⟩ | ⟨g, cap, cur, rfl, _⟩
      · omega
      · exact ⟨_, _, rfl⟩
    refine wpList_plain hgd fun _ hK' => ?_
    unfold Oper.wp execOp
    simp only [ho, resolve, invoke, builtin, Sem.run_bind, Sem.run_pure, Result.andThen_ok, List.map_toArray, List.map_cons, List.map_nil, hs, hx, hr]
    have hl : Lab w0 w' (Thing.ints (.slice a' (xs.length + ys.length) c') (xs ++ ys) :: ts) := by
      have hown2 : OwnInts w' 0 3 .i64 (.slice a' (xs.length + ys.length) c') (xs ++ ys) := by
        unfold OwnInts
        rw [List.length_append, List.map_append]
        exact h2
      refine h.turn (s' := Thing.ints (.slice a' (xs.length + ys.length) c') (xs ++ ys)) ⟨h3.os, h3.tape, h3.output, h3.size, fun b hb hn => h3.block b hb (fun e => hn (by simp [Thing.ints, Thing.row, ← e]))⟩ hown2 (fun k hk => ?_) (fun k hk => by simp [Thing.ints, Thing.row] at hk) (fun k hk => ?_)
      · have hk' : (Value.slice a' (xs.length + ys.length) c').ownBlock = some k := by simpa [Thing.ints, Thing.row] using hk
        exact (blk k hk').imp (fun e => by simp [Thing.ints, Thing.row, e]) id
      · rcases hk with hk | hk
        · exact (World.ownsRow.lt hown2 k (by simpa [Thing.ints, Thing.row] using hk)).2
        · simp [Thing.ints, Thing.row] at hk
    have := hK a' c' w' (by rw [List.length_append]; exact hl)
    rw [List.length_append] at this
    exact hK' _ _ this
end
/-- The map of nodes that were seen. -/
structure NodeF (L : List PNode) (S : Nat → Bool) (f : Int → Option Value) : Prop where
  has : ∀ j : Nat, S j = true → ∃ n a m c, L[j]? = some n ∧ f (j : Int) = some (.agg #[.int .u8 n.1, .int .u64 n.2.1, .slice a m c])
  only : ∀ k v, f k = some v → ∃ j : Nat, k = (j : Int) ∧ S j = true
theorem NodeF.start (L : List PNode) : NodeF L (fun _ => false) (fun _ => Option.none) := ⟨fun j h => (by cases h), fun k v h => (by cases h)⟩
theorem NodeF.put {L : List PNode} {S : Nat → Bool} {f : Int → Option Value} (h : NodeF L S f) {t : Nat} {n : PNode} (hn : L[t]? = some n) (a : Option Addr) (m c : Nat) : NodeF L (mark S t) (fun k => if k = (t : Int) then some (.agg #[.int .u8 n.1, .int .u64 n.2.1, .slice a m c]) else f k) := by
  refine ⟨fun j hj => ?_, fun k v hk => ?_⟩
  · by_cases e : j = t
    · subst e
      exact ⟨n, a, m, c, hn, if_pos rfl⟩
    · have hj' : S j = true := by unfold mark at hj; rwa [if_neg e] at hj
      obtain ⟨n', a', m', c', h1, h2⟩ := h.has j hj'
      exact ⟨n', a', m', c', h1, by rw [if_neg (by omega)]; exact h2⟩
  · by_cases e : k = (t : Int)
    · exact ⟨t, e, mark_self⟩
    · rw [if_neg e] at hk
      obtain ⟨j, h1, h2⟩ := h.only k v hk
      exact ⟨j, h1, mark_old h2⟩
theorem Lab.subl {w0 wr : World} {ts ts' : List Thing} (h : Lab w0 wr ts) (hs : ts'.Sublist ts) : Lab w0 wr ts' :=
  ⟨h.below, fun t ht => h.holds t (hs.subset ht), fun t ht => h.low t (hs.subset ht), fun t ht => h.high t (hs.subset ht), h.apart.sublist hs⟩
/-- How many entries a map has. -/
def mlen (w : World) (mb : Nat) : Nat := match w.heap[mb]? with | some (.map es _) => es.size | _ => 0
theorem mlen_of {w : World} {mb c : Nat} {K : TypeId} {kd : IntKind} {f : Int → Option Value} (h : MapF Tryz.prog K kd w mb f c) : mlen w mb = c := by
  obtain ⟨m, ⟨es, clock, h1, h2, h3, -⟩, hc, -⟩ := h
  unfold mlen
  rw [h1]
  have := h3.length_eq
  simpa [← hc] using this
def slen : Value → Nat | .slice _ n _ => n | _ => 0
/-- What grows less with each round. -/
def supMeas (N mb : Nat) (v : Value) (w : World) : Nat := 4 * (N - mlen w mb) + slen v
theorem supMeas_of {w : World} {N mb c : Nat} {K : TypeId} {kd : IntKind} {f : Int → Option Value} (h : MapF Tryz.prog K kd w mb f c) (a : Option Addr) (n cc : Nat) : supMeas N mb (.slice a n cc) w = 4 * (N - c) + n := by
  unfold supMeas; rw [mlen_of h]; rfl
theorem argsOf_at {L : List PNode} {t : Nat} {n : PNode} (h : L[t]? = some n) : argsOf L t = n.2.2 := by unfold argsOf; rw [h]
theorem zeroNode (w : World) : (zeroValue 88).run Tryz.prog w = .ok (.agg #[.int .u8 0, .int .u64 0, .slice none 0 0]) w := by kernel_rfl
section
variable {w0 wr w' : World} {ts : List Thing} {F I : List Nat} {gb W room : Nat} {L : List PNode}
/-- What occur answers. -/
def OccEnd (w0 : World) (F I : List Nat) (gb W room : Nat) (L : List PNode) (ts : List Thing) (us : List Int) (e : Ending) (w' : World) : Prop :=
  ∃ mb f, e = .returned (.tuple #[.map (some mb), .int .i64 0]) ∧ NodeF L (occS L us) f ∧ Lab w0 w' (Thing.mapf 3 .i64 mb f (cntS L (occS L us)) :: Thing.graph F I gb W room L :: ts)
def OccPost (w0 wr : World) (F I : List Nat) (gb W room : Nat) (L : List PNode) (ts : List Thing) (us : List Int) (e : Ending) (w' : World) : Prop :=
  (InL L us → OccEnd w0 F I gb W room L ts us e w') ∧ (¬ InL L us → e = .returned (.tuple #[.map none, .int .i64 3]) ∧ wr = w')
set_option maxRecDepth 100000 in
theorem occur_any (h : Lab w0 wr (Thing.graph F I gb W room L :: ts)) (v : Value) (us : List Int) (hv : SliceOf wr .i64 v us) (hn : us.length ≤ 900000000) :
    Calls Tryz.prog 64 #[.pointer (some ⟨gb, 0, none⟩), v] wr (OccPost w0 wr F I gb W room L ts us) := by
  have hll : L.length ≤ 1048576 := by have := h.gr.len; have := h.gr.r2; omega
  have hwf := h.gr.wf
  obtain ⟨va, n, vc, rfl, hvn, -⟩ := hv.parts
  have hlen : Calls Tryz.prog 22 #[.pointer (some ⟨gb, 0, none⟩)] wr fun e w' => e = .returned (.int .i64 L.length) ∧ wr = w' := len_any h.gr
  have HL := Lib.hid h; have HV := Lib.hid (And.intro hv hvn); have HLEN := Lib.hid hlen; have HWF := Lib.hid hwf
  have hn' : n ≤ 900000000 := by omega
  clear h hv hvn hlen hn hwf
  go_enter Tryz.func64, Tryz.ntmps64
  go_wp2
  go_step3
  go_wp2
  obtain ⟨w1, hw1⟩ : ∃ w1, w1 = wr := ⟨_, rfl⟩
  have HW1 := Lib.hid hw1
  clear hw1
  go_loopw [19] (fun i wx => ∃ k : Nat, k ≤ n ∧ i = .int .i64 k ∧ wx = w1 ∧ InL L (us.take k)) (fun i _ => n - (intOf i).toNat)
  case atStart => exact ⟨0, by omega, rfl, HW1.out.symm, by simp [InL]⟩
  case round =>
    obtain ⟨k, hk, rfl, hwx, hin⟩ := hrel
    have hwx2 := hwx.trans HW1.out
    clear hwx
    subst hwx2
    by_cases hlt : k < n
    · have hlt' : (k : Int) < (n : Int) := by omega
      obtain ⟨b, off, x, rfl, hc, hx⟩ := HV.out.1.parts' hlt
      have hnext : us.take (k + 1) = us.take k ++ [x] := by rw [List.take_add_one, hx]; rfl
      have hmem := List.mem_of_getElem? hx
      have HN := Lib.hid (And.intro hin (And.intro hnext hmem))
      clear hin hnext hmem hx
      by_cases hxr : 0 ≤ x ∧ x < (L.length : Int)
      · have x0 : ¬ x < 0 := by omega
        have x1 : ¬ (L.length : Int) ≤ x := by omega
        go_wp2_with (go_at_call 22; refine HLEN.out.mono ?_; rintro e w2 ⟨rfl, rfl⟩)
        go_roundw
        case rel =>
          refine ⟨k + 1, by omega, by go_num, HW1.out.symm, ?_⟩
          rw [HN.out.2.1]
          intro t ht
          rcases List.mem_append.1 ht with h1 | h1
          · exact HN.out.1 t h1
          · rw [List.mem_singleton.1 h1]; exact hxr
        case measure => simp [intOf]; omega
      · have hno : ¬ InL L us := fun h => hxr (h x HN.out.2.2)
        by_cases x0 : x < 0
        · go_wp2_with (go_at_call 22; refine HLEN.out.mono ?_; rintro e w2 ⟨rfl, rfl⟩)
          rw [Exit.noGoto_ret]
          go_ret2
          exact ⟨fun h => absurd h hno, fun _ => ⟨rfl, rfl⟩⟩
        · have x1 : (L.length : Int) ≤ x := by omega
          go_wp2_with (go_at_call 22; refine HLEN.out.mono ?_; rintro e w2 ⟨rfl, rfl⟩)
          rw [Exit.noGoto_ret]
          go_ret2
          exact ⟨fun h => absurd h hno, fun _ => ⟨rfl, rfl⟩⟩
    · obtain rfl : k = n := by omega
      rw [List.take_of_length_le (by rw [HV.out.2]; exact Nat.le_refl _)] at hin
      have HIN := Lib.hid hin
      clear hin hk hlt
      obtain ⟨mb, hmb⟩ : ∃ mb, wr.heap.size = mb := ⟨_, rfl⟩
      have hl2 := HL.out.new_map 3 .i64
      rw [hmb] at hl2
      have HL2 := Lib.hid hl2
      have hsl := HV.out.1.below (below_new wr (.map #[] 0))
      have HSL := Lib.hid hsl
      have hmm := @run_makeMap Tryz.prog
      clear hl2 hsl
      go_upto_region 10 with fail
      clear hmb hmm
      refine wp_abs (fun w2 => Lab w0 w2 (Thing.mapf 3 .i64 mb (fun _ => none) 0 :: Thing.graph F I gb W room L :: ts) ∧ SliceOf w2 .i64 (.slice va k vc) us) ⟨HL2.out, HSL.out⟩ ?_
      clear HL2 HSL HLEN
      rintro w2 ⟨hl2, hsl⟩
      have hul : us.length ≤ 1000000000 := by have := HV.out.2; omega
      have HL2 := Lib.hid hl2
      clear hl2
      go_wp2_with (at_builtin; refine wpList_append_copy 24 3 .i64 8 _ _ _ us hsl _ _ rfl rfl Tryz.underlying24 Tryz.infoI64 (by decide) rfl rfl hul (Nat.le_refl _) ?_; intro v3 w3 hown3 hb3)
      go_step3
      have hl3 := (HL2.out.new_ints hb3 hown3).swap
      obtain ⟨a3, m3, c3, rfl⟩ := hown3.val
      obtain rfl : m3 = us.length := hl3.swap.ints_cap.2
      have HL3 := Lib.hid hl3
      clear hl3 hown3 hb3 hsl HL2
      have hul9 : us.length ≤ 900000000 := by have := HV.out.2; omega
      go_wp2
      go_loopw [9] (fun v wx => ∃ st a c S f, v = .slice a st.length c ∧ SupInv L us S st ∧ NodeF L S f ∧ st.length ≤ us.length + 3 * cntS L S ∧ Lab w0 wx (Thing.mapf 3 .i64 mb f (cntS L S) :: Thing.ints (.slice a st.length c) st :: Thing.graph F I gb W room L :: ts)) (fun v wx => supMeas L.length mb v wx)
      case atStart => exact ⟨us, a3, c3, fun _ => false, fun _ => none, rfl, SupInv.start HIN.out, NodeF.start L, by omega, by rw [cntS_none]; exact HL3.out⟩
      case round =>
        obtain ⟨st, a, c, S, f, rfl, hinv, hf, hst, hl⟩ := hrel
        clear HL3
        have hmf : MapF Tryz.prog 3 .i64 wr mb f (cntS L S) := hl.mapf
        rcases List.eq_nil_or_concat st with rfl | ⟨xs, t, rfl⟩
        · have hS := hinv.end_
          subst hS
          have HF := Lib.hid hf; have HL4 := Lib.hid hl
          clear hf hl hinv hmf
          go_wp2
          rw [Exit.noGoto_ret]
          go_ret2
          exact ⟨fun _ => ⟨mb, f, rfl, HF.out, HL4.out.swap.drop⟩, fun h => absurd HIN.out h⟩
        · rw [List.concat_eq_append] at hinv hst hl ⊢
          have hlen1 : (xs ++ [t]).length = xs.length + 1 := by simp
          rw [hlen1] at hst hl ⊢
          have ht := hinv.st_in t (by simp)
          obtain ⟨tn, rfl⟩ := Int.eq_ofNat_of_zero_le ht.1
          have htl : tn < L.length := by omega
          have hown : OwnInts wr 0 3 .i64 (.slice a (xs.length + 1) c) (xs ++ [(tn : Int)]) := hl.second
          obtain ⟨g, cap, e⟩ := own_some' hown (by simp)
          simp only [Value.slice.injEq] at e
          obtain ⟨rfl, -, rfl⟩ := e
          have hcap := (hl.swap.ints_cap).1
          have hcap' : (xs.length : Int) + 1 ≤ (c : Int) := by omega
          have d0 := (OwnInts.slice hown).at (i := xs.length) (q := (tn : Int)) (by simp)
          rw [Nat.zero_add] at d0
          have hcs := cntS_le (L := L) (S := S)
          have hxl : xs.length ≤ 910000000 := by omega
          have hlp := hl.swap.pop
          have hmeas : supMeas L.length mb (.slice (some ⟨g, 0, none⟩) (xs.length + 1) c) wr = 4 * (L.length - cntS L S) + (xs.length + 1) := by unfold supMeas; rw [mlen_of hmf]; rfl
          cases hS : S tn with
          | true =>
            obtain ⟨n, a', m', c', -, hfn⟩ := hf.has tn hS
            have hask := hmf.hit (T := 121) (E := 88) Tryz.underlying3 Tryz.underlying121 (k := (tn : Int)) (wf_i64 (by omega) (by omega)) hfn true
            have HINV := Lib.hid (hinv.skip (by rw [Int.toNat_natCast]; exact hS)); have HF := Lib.hid hf; have HL4 := Lib.hid hlp.swap; have HM := Lib.hid hmeas
            clear hinv hf hl hlp hmf hown hmeas hfn hS ht
            go_wp2
            go_roundw
            case rel => exact ⟨xs, _, c, S, f, rfl, HINV.out, HF.out, by omega, HL4.out.later (below_new _ _)⟩
            case measure =>
              have h2 := fun o => supMeas_of (N := L.length) (HL4.out.later (below_new wr o)).mapf (some ⟨g, 0, none⟩) xs.length c
              rw [HM.out, h2]
              omega
          | false =>
            have hfn : f (tn : Int) = none := by
              cases e : f (tn : Int) with
              | none => rfl
              | some v =>
                obtain ⟨j, h1, h2⟩ := hf.only _ _ e
                obtain rfl : tn = j := by omega
                rw [hS] at h2; cases h2
            have hask := hmf.miss (T := 121) (E := 88) Tryz.underlying3 Tryz.underlying121 (zeroNode _) (k := (tn : Int)) (wf_i64 (by omega) (by omega)) hfn true
            obtain ⟨nd, hi⟩ : ∃ nd, L[tn]? = some nd := ⟨_, List.getElem?_eq_getElem htl⟩
            have hok := HWF.out.ok nd (List.mem_of_getElem? hi)
            have hcm := cntS_mark hS htl
            have hcm2 := cntS_le (L := L) (S := mark S tn)
            obtain ⟨p, hp⟩ : ∃ p, wr.heap.size = p := ⟨_, rfl⟩
            have hl4 := hlp.swap.alloc #[.int .u8 0, .int .u64 0, .slice none 0 0] 88
            rw [hp] at hl4
            have hvis := hinv.visit HWF.out
            rw [Int.toNat_natCast, argsOf_at hi] at hvis
            have HINV := Lib.hid hvis; have HF := Lib.hid hf; have HL4 := Lib.hid hl4.drop; have HM := Lib.hid hmeas; have HI := Lib.hid hi; have HOK := Lib.hid hok; have HCM := Lib.hid hcm; have HS := Lib.hid hS
            clear hinv hf hl hlp hl4 hmf hown hmeas hfn hS ht hvis hi hok hcm
            go_upto_region 16 with fail
            clear hp hask d0
            refine wp_abs (fun w5 => Lab w0 w5 (Thing.mapf 3 .i64 mb f (cntS L S) :: Thing.ints (.slice (some ⟨g, 0, none⟩) xs.length c) xs :: Thing.graph F I gb W room L :: ts)) HL4.out ?_
            clear HL4
            rintro w5 hl5
            have HL5 := Lib.hid hl5.rot3
            clear hl5
            go_wp2_with fail
            go_at_call 67
            refine (HL5.out.node_at tn nd HI.out).mono ?_
            rintro e w6 ⟨aa, am, ac, rfl, hl6⟩
            obtain ⟨q, hq⟩ : ∃ q, w6.heap.size = q := ⟨_, rfl⟩
            have hl7 := hl6.alloc #[.int .u8 nd.1, .int .u64 nd.2.1, .slice aa am ac] 88
            rw [hq] at hl7
            have HL7 := Lib.hid hl7.rot4
            clear hl6 hl7 HL5
            go_upto_region 17 with fail
            clear hq
            refine wp_abs (fun w7 => Lab w0 w7 (Thing.mapf 3 .i64 mb f (cntS L S) :: Thing.box q 88 #[.int .u8 nd.1, .int .u64 nd.2.1, .slice aa am ac] :: Thing.graph F I gb W room L :: Thing.ints (.slice aa am ac) nd.2.2 :: Thing.ints (.slice (some ⟨g, 0, none⟩) xs.length c) xs :: ts)) HL7.out ?_
            clear HL7
            rintro w7 hl7
            obtain ⟨x0, x1, x2⟩ := cells3 hl7.box2
            obtain ⟨hput, hl8⟩ := Lab.mput (T := 121) (E := 88) (k := (tn : Int)) hl7 Tryz.underlying3 Tryz.underlying121 (wf_i64 (by omega) (by omega)) (.agg #[.int .u8 nd.1, .int .u64 nd.2.1, .slice aa am ac])
            have HL8 := Lib.hid hl8
            clear hl7 hl8
            go_upto_region 18 with fail
            clear hput x0 x1 x2
            refine wp_abs (fun w8 => Lab w0 w8 (Thing.mapf 3 .i64 mb (fun j => if j = (tn : Int) then some (.agg #[.int .u8 nd.1, .int .u64 nd.2.1, .slice aa am ac]) else f j) (cntS L (mark S tn)) :: Thing.box q 88 #[.int .u8 nd.1, .int .u64 nd.2.1, .slice aa am ac] :: Thing.graph F I gb W room L :: Thing.ints (.slice aa am ac) nd.2.2 :: Thing.ints (.slice (some ⟨g, 0, none⟩) xs.length c) xs :: ts)) ?_ ?_
            · have hfn : f (tn : Int) = none := by
                cases e : f (tn : Int) with
                | none => rfl
                | some v =>
                  obtain ⟨j, h1, h2⟩ := HF.out.only _ _ e
                  obtain rfl : tn = j := by omega
                  rw [HS.out] at h2; cases h2
              have := HL8.out
              rw [hfn] at this
              rw [HCM.out]
              exact this
            clear HL8
            rintro w8 hl8
            obtain ⟨x0, x1, x2⟩ := cells3 hl8.box2
            have hsrc : SliceOf w8 .i64 (.slice aa am ac) nd.2.2 := OwnInts.slice hl8.fourth
            have hxa : xs.length + nd.2.2.length ≤ 1000000000 := by have := HOK.out.2.2; have := aryN_le nd.1; omega
            have HL9 := Lib.hid hl8.rot5
            clear hl8 x0 x1
            go_wp2_with (at_builtin; refine wpList_append_lab (.tmp 65) (.tmp 67) HL9.out hsrc rfl rfl rfl rfl hxa ?_; intro a9 c9 w9 hl9)
            have HL10 := Lib.hid (hl9.swap.subl (ts' := Thing.mapf 3 .i64 mb (fun j => if j = (tn : Int) then some (.agg #[.int .u8 nd.1, .int .u64 nd.2.1, .slice aa am ac]) else f j) (cntS L (mark S tn)) :: Thing.ints (.slice a9 (xs ++ nd.2.2).length c9) (xs ++ nd.2.2) :: Thing.graph F I gb W room L :: ts) (.cons_cons _ (.cons_cons _ (.cons _ (.cons_cons _ (.cons _ (List.Sublist.refl _)))))))
            clear hl9 HL9 hsrc x2
            go_roundw
            case rel => exact ⟨xs ++ nd.2.2, a9, c9, mark S tn, _, by rw [List.length_append], HINV.out, HF.out.put HI.out aa am ac, by rw [List.length_append, HCM.out]; have := HOK.out.2.2; have := aryN_le nd.1; omega, HL10.out⟩
            case measure =>
              have h2 := supMeas_of (N := L.length) HL10.out.mapf a9 (xs ++ nd.2.2).length c9
              rw [List.length_append] at h2
              rw [HM.out, h2, HCM.out]
              rw [HCM.out] at hcm2
              have := HOK.out.2.2
              have := aryN_le nd.1
              omega
end
end Go.Proofs.YteamnchoddegpaaGreatDoor
namespace Go.Proofs
open Go.Shelf
def Tryz.laysSort_ren : Go.Shelf.Ren := ⟨fun | 189 => 65 | 125 => 84 | 257 => 83 | 128 => 99 | 129 => 100 | 294 => 90 | 295 => 91 | 296 => 92 | 297 => 93 | 298 => 94 | 299 => 95 | 216 => 96 | 300 => 97 | 301 => 98 | 328 => 124 | 329 => 125 | 330 => 126 | 331 => 127 | 332 => 128 | 215 => 129 | 343 => 142 | n => n, fun | 28 => 24 | 3 => 3 | 46 => 148 | 0 => 0 | 51 => 103 | 53 => 43 | 4 => 4 | 183 => 166 | 182 => 165 | 131 => 146 | 5 => 5 | 9 => 9 | 218 => 186 | 222 => 189 | 228 => 199 | 229 => 200 | n => n, fun | n => n⟩
theorem Tryz.laysSort : Go.Proofs.Lays.n189 Tryz.prog Tryz.laysSort_ren := {
  mixed := by kernel_rfl
  f125 := Tryz.func84.trans (congrArg some (by kernel_rfl))
  f128 := Tryz.func99.trans (congrArg some (by kernel_rfl))
  f129 := Tryz.func100.trans (congrArg some (by kernel_rfl))
  f189 := Tryz.func65.trans (congrArg some (by kernel_rfl))
  f215 := Tryz.func129.trans (congrArg some (by kernel_rfl))
  f216 := Tryz.func96.trans (congrArg some (by kernel_rfl))
  f257 := Tryz.func83.trans (congrArg some (by kernel_rfl))
  f294 := Tryz.func90.trans (congrArg some (by kernel_rfl))
  f295 := Tryz.func91.trans (congrArg some (by kernel_rfl))
  f296 := Tryz.func92.trans (congrArg some (by kernel_rfl))
  f297 := Tryz.func93.trans (congrArg some (by kernel_rfl))
  f298 := Tryz.func94.trans (congrArg some (by kernel_rfl))
  f299 := Tryz.func95.trans (congrArg some (by kernel_rfl))
  f300 := Tryz.func97.trans (congrArg some (by kernel_rfl))
  f301 := Tryz.func98.trans (congrArg some (by kernel_rfl))
  f328 := Tryz.func124.trans (congrArg some (by kernel_rfl))
  f329 := Tryz.func125.trans (congrArg some (by kernel_rfl))
  f330 := Tryz.func126.trans (congrArg some (by kernel_rfl))
  f331 := Tryz.func127.trans (congrArg some (by kernel_rfl))
  f332 := Tryz.func128.trans (congrArg some (by kernel_rfl))
  f343 := Tryz.func142.trans (congrArg some (by kernel_rfl))
  t0 := Tryz.underlying0
  a0 := Tryz.isAgg0
  z0 := Tryz.sizeOf0
  v0 := Tryz.zeroValue0
  t3 := Tryz.underlying3
  a3 := Tryz.isAgg3
  z3 := Tryz.sizeOf3
  v3 := Tryz.zeroValue3
  t4 := Tryz.underlying4
  a4 := Tryz.isAgg4
  z4 := Tryz.sizeOf4
  v4 := Tryz.zeroValue4
  t5 := Tryz.underlying5
  a5 := Tryz.isAgg5
  z5 := Tryz.sizeOf5
  v5 := Tryz.zeroValue5
  t9 := Tryz.underlying9
  a9 := Tryz.isAgg9
  z9 := Tryz.sizeOf9
  v9 := Tryz.zeroValue9
  t28 := Tryz.underlying24
  a28 := Tryz.isAgg24
  z28 := Tryz.sizeOf24
  v28 := Tryz.zeroValue24
  t46 := Tryz.underlying148
  a46 := Tryz.isAgg148
  z46 := Tryz.sizeOf148
  v46 := Tryz.zeroValue148
  t51 := Tryz.underlying103
  a51 := Tryz.isAgg103
  z51 := Tryz.sizeOf103
  v51 := Tryz.zeroValue103
  t53 := Tryz.underlying43
  a53 := Tryz.isAgg43
  z53 := Tryz.sizeOf43
  v53 := Tryz.zeroValue43
  t131 := Tryz.underlying146
  a131 := Tryz.isAgg146
  z131 := Tryz.sizeOf146
  v131 := Tryz.zeroValue146
  t182 := Tryz.underlying165
  a182 := Tryz.isAgg165
  z182 := Tryz.sizeOf165
  v182 := Tryz.zeroValue165
  t183 := Tryz.underlying166
  a183 := Tryz.isAgg166
  z183 := Tryz.sizeOf166
  v183 := Tryz.zeroValue166
  t218 := Tryz.underlying186
  a218 := Tryz.isAgg186
  z218 := Tryz.sizeOf186
  v218 := Tryz.zeroValue186
  t222 := Tryz.underlying189
  a222 := Tryz.isAgg189
  z222 := Tryz.sizeOf189
  v222 := Tryz.zeroValue189
  t228 := Tryz.underlying199
  a228 := Tryz.isAgg199
  z228 := Tryz.sizeOf199
  v228 := Tryz.zeroValue199
  t229 := Tryz.underlying200
  a229 := Tryz.isAgg200
  z229 := Tryz.sizeOf200
  v229 := Tryz.zeroValue200 }
end Go.Proofs
namespace Go.Proofs.YteamnchoddegpaaGreatDoor
open Go.RowKit Go.Maps
set_option maxHeartbeats 3200000
section
variable {w0 wr w' : World} {ts : List Thing}
theorem setCells_keeps (b : Nat) : ∀ (vs : List Value) (o : Nat) (w : World), (w.setCells b o vs).os = w.os ∧ (w.setCells b o vs).tape = w.tape ∧ (w.setCells b o vs).output = w.output ∧ (w.setCells b o vs).heap.size = w.heap.size ∧ ∀ k, k ≠ b → (w.setCells b o vs).heap[k]? = w.heap[k]?
  | [], _, _ => ⟨rfl, rfl, rfl, rfl, fun _ _ => rfl⟩
  | v :: vs, o, w => by
    obtain ⟨h1, h2, h3, h4, h5⟩ := setCells_keeps b vs (o + 1) (w.setCell ⟨b, o, none⟩ v)
    exact ⟨h1, h2, h3, h4.trans (World.size_setCell _ _ _), fun k hk => (h5 k hk).trans (heap_setCell_other _ _ _ _ (by simpa using hk))⟩
theorem sort_lab {a : Option Addr} {c : Nat} {xs : List Int} (h : Lab w0 wr (Thing.ints (.slice a xs.length c) xs :: ts)) (hn : xs.length ≤ 1000000000) :
    Calls Tryz.prog 65 #[.slice a xs.length c] wr fun e w' => e = .returned (.tuple #[]) ∧ Lab w0 w' (Thing.ints (.slice a xs.length c) (xs.mergeSort leI) :: ts) := by
  by_cases hx : xs = []
  · subst hx
    refine (Any.slices_Sort_int_none Tryz.laysSort a c wr).mono ?_
    rintro e w2 ⟨rfl, rfl⟩
    exact ⟨rfl, by simpa using h⟩
  · obtain ⟨g, cap, e⟩ := own_some' h.ints hx
    simp only [Value.slice.injEq] at e
    obtain ⟨rfl, -, rfl⟩ := e
    have hsl : SliceOf wr .i64 (.slice (some ⟨g, 0, none⟩) xs.length c) xs := OwnInts.slice h.ints
    have hH := Go.Lib.holds_of_ints (w := wr) (b := g) (off := 0) (n := xs.length) (zs := xs) (Nat.le_refl _) (fun j hj => by
      rw [hsl.at (List.getElem?_eq_getElem hj), List.getD_eq_getElem?_getD, List.getElem?_eq_getElem hj]; rfl) (fun j hj => by
      rw [Nat.zero_add]
      exact World.ownsRow.frozenAt h.ints j)
    rw [List.take_length] at hH
    have hlt : g < wr.heap.size := (World.ownsRow.lt h.ints g rfl).2
    refine (Any.slices_Sort_int Tryz.laysSort g 0 c xs wr hH hlt (by omega)).mono ?_
    rintro e w2 ⟨rfl, q, os, rfl⟩
    refine ⟨rfl, ?_⟩
    obtain ⟨h1, h2⟩ := h.ints
    rcases h2 with ⟨e, -⟩ | ⟨g', cap', cur, e, -, hg, hnc, hcm, hcs, -⟩
    · simp at e
    · simp only [Value.slice.injEq, Option.some.injEq, Addr.mk.injEq, and_true, true_and] at e
      obtain ⟨rfl, rfl⟩ := e
      have hlen : (xs.mergeSort leI).length = xs.length := by simp
      have hown := ownsRow_sortedI (base := 0) (n := q) (os := os) (ss := xs) (ts := xs.mergeSort leI) hlen (Nat.zero_le _) hg hnc hcm hcs
      have hown2 : OwnInts (Go.Sort.grow (Go.Sort.putRow (Value.int .i64) (Go.Sort.ahead wr q) g 0 (xs.mergeSort leI).toArray) os) 0 3 .i64 (.slice (some ⟨g, 0, none⟩) xs.length c) (xs.mergeSort leI) := by
        unfold OwnInts
        rw [hlen]
        exact hown
      have hw := Go.Lib.sorted_world (Value.int .i64) wr g 0 q _ (xs.mergeSort leI) os hH (by simp)
      obtain ⟨k1, k2, k3, k4, k5⟩ := setCells_keeps g ((xs.mergeSort leI).map (Value.int .i64)) 0 (wr.drewN q)
      have ht : Touch [g] wr (Go.Sort.grow (Go.Sort.putRow (Value.int .i64) (Go.Sort.ahead wr q) g 0 (xs.mergeSort leI).toArray) os) := by
        rw [hw]
        refine ⟨k1, k2, k3, ?_, fun k hk hn => ?_⟩
        · show wr.heap.size ≤ (_ ++ os).size
          rw [Array.size_append]
          have : ((wr.drewN q).setCells g 0 ((xs.mergeSort leI).map (Value.int .i64))).heap.size = wr.heap.size := k4
          omega
        · show (((wr.drewN q).setCells g 0 ((xs.mergeSort leI).map (Value.int .i64))).heap ++ os)[k]? = _
          have hsz : ((wr.drewN q).setCells g 0 ((xs.mergeSort leI).map (Value.int .i64))).heap.size = wr.heap.size := k4
          rw [Array.getElem?_append_left (by omega)]
          exact k5 k (by simpa using hn)
      exact h.turn (s' := Thing.ints (.slice (some ⟨g, 0, none⟩) xs.length c) (xs.mergeSort leI)) ht hown2 (fun k hk => .inl hk) (fun k hk => by simp [Thing.ints, Thing.row] at hk) (fun k hk => by
        rcases hk with hk | hk
        · exact (World.ownsRow.lt hown2 k (by simpa [Thing.ints, Thing.row] using hk)).2
        · simp [Thing.ints, Thing.row] at hk)
end
end Go.Proofs.YteamnchoddegpaaGreatDoor
namespace Go.Proofs.YteamnchoddegpaaGreatDoor
open Go.RowKit Go.Maps
set_option maxHeartbeats 3200000
/-- The variable that a key stands for. -/
def varK (L : List PNode) : Value → Option Int | .int _ j => varN L j.toNat | _ => none
/-- What a loop over the nodes has collected. -/
def outD (L : List PNode) (d : List (Value × Value)) : List Int := d.filterMap fun p => varK L p.1
theorem outD_add {L : List PNode} {d : List (Value × Value)} {j : Nat} {v : Value} {x : Int} (h : varN L j = some x) : outD L (d ++ [(.int .i64 (j : Int), v)]) = outD L d ++ [x] := by
  unfold outD; rw [List.filterMap_append]; simp [varK, h]
theorem outD_not {L : List PNode} {d : List (Value × Value)} {j : Nat} {v : Value} (h : varN L j = none) : outD L (d ++ [(.int .i64 (j : Int), v)]) = outD L d := by
  unfold outD; rw [List.filterMap_append]; simp [varK, h]
theorem outD_map (L : List PNode) (d : List (Value × Value)) : outD L d = (d.map (·.1)).filterMap (varK L) := by
  unfold outD; rw [List.filterMap_map]; rfl
theorem outD_end {L : List PNode} {S : Nat → Bool} {f : Int → Option Value} {m d : List (Value × Value)} (hf : NodeF L S f) (hn : (m.map (·.1)).Nodup) (h3 : ∀ p ∈ m, ∃ k v, p = (Value.int .i64 k, v) ∧ f k = some v) (h4 : ∀ k v, f k = some v → (Value.int .i64 k, v) ∈ m) (hd : d.Perm m) :
    (outD L d).Perm (varsS L S) := by
  have h1 : (outD L d).Perm (outD L m) := hd.filterMap _
  refine h1.trans ?_
  have h2 : varsS L S = (((List.range L.length).filter S).map fun j => Value.int .i64 ((j : Nat) : Int)).filterMap (varK L) := by
    unfold varsS; rw [List.filterMap_map]; rfl
  rw [outD_map, h2]
  refine List.Perm.filterMap _ ?_
  have hn2 : (((List.range L.length).filter S).map fun j => Value.int .i64 ((j : Nat) : Int)).Nodup := by
    refine List.Pairwise.map _ ?_ (List.nodup_range.sublist List.filter_sublist)
    intro x y hne e
    simp only [Value.int.injEq, true_and] at e
    omega
  refine (List.perm_ext_iff_of_nodup hn hn2).2 fun a => ⟨fun ha => ?_, fun ha => ?_⟩
  · obtain ⟨p, hp, rfl⟩ := List.mem_map.1 ha
    obtain ⟨k, v, rfl, hk⟩ := h3 p hp
    obtain ⟨j, rfl, hj⟩ := hf.only _ _ hk
    obtain ⟨n, -, -, -, hl, -⟩ := hf.has j hj
    exact List.mem_map.2 ⟨j, mem_range_filter.2 ⟨(List.getElem?_eq_some_iff.1 hl).1, hj⟩, rfl⟩
  · obtain ⟨j, hj, rfl⟩ := List.mem_map.1 ha
    obtain ⟨n, a', m', c', -, hl⟩ := hf.has j (mem_range_filter.1 hj).2
    exact List.mem_map.2 ⟨_, h4 _ _ hl, rfl⟩
theorem rngLeft_of {w : World} {mb r : Nat} {m d : List (Value × Value)} (h : MapRng w mb r m d) : rngLeft w mb r + d.length = m.length := by
  obtain ⟨es, clock, seen, h1, h2, h3, h4, h5⟩ := h
  have h6 := h5.length_eq
  unfold rngLeft
  rw [h1, h4]
  simp only [List.length_append, List.length_map, Array.length_toList] at h6
  simp only
  omega
theorem outD_len {L : List PNode} {d : List (Value × Value)} : (outD L d).length ≤ d.length := by
  unfold outD; exact List.length_filterMap_le _ _
section
variable {w0 wr w' : World} {ts : List Thing} {F I : List Nat} {gb W room : Nat} {L : List PNode}
set_option maxRecDepth 100000 in
/-- Vars. -/
theorem Lab.vars (h : Lab w0 wr (Thing.graph F I gb W room L :: ts)) (hg : GoodL W L) (v : Value) (us : List Int) (hv : SliceOf wr .i64 v us) (hn : us.length ≤ 900000000) :
    Calls Tryz.prog 35 #[.pointer (some ⟨gb, 0, none⟩), v] wr fun e w' =>
      (InL L us → ∃ a c, e = .returned (.tuple #[.slice a (varsO L (occS L us)).length c, .int .i64 0]) ∧ Lab w0 w' (Thing.ints (.slice a (varsO L (occS L us)).length c) (varsO L (occS L us)) :: Thing.graph F I gb W room L :: ts)) ∧
      (¬ InL L us → e = .returned (.tuple #[.slice none 0 0, .int .i64 3]) ∧ wr = w') := by
  have hocc := occur_any h v us hv hn
  have hll : L.length ≤ 1048576 := by have := h.gr.len; have := h.gr.r2; omega
  have HO := Lib.hid hocc; have HG := Lib.hid hg
  clear h hv hn hocc hg
  by_cases hin : InL L us
  · go_enter Tryz.func35, Tryz.ntmps35
    go_wp2_with fail
    go_at_call 64
    refine HO.out.mono ?_
    rintro e w2 ⟨h1, -⟩
    obtain ⟨mb, f, rfl, hf, hl⟩ := h1 hin
    clear h1 HO
    have HF := Lib.hid hf; have HL := Lib.hid hl
    obtain ⟨mm, hm1, hm2, hm3, hm4⟩ := hl.mapf
    have hmn : (mm.map (·.1)).Nodup := by obtain ⟨_, _, _, _, _, h4, _⟩ := hm1; exact h4
    have hml : mm.length ≤ 1048576 := by rw [hm2]; exact Nat.le_trans cntS_le hll
    have HM1 := Lib.hid hm1; have HM3 := Lib.hid hm3; have HM4 := Lib.hid hm4; have HMN := Lib.hid hmn; have HML := Lib.hid hml
    clear hf hl hm1 hm2 hm3 hm4 hmn hml
    go_wp2_with (at_range; refine wpList_range_map rfl _ 121 88 rfl Tryz.underlying121 rfl HM1.out ?_; intro w5 hrg hb5 hs5)
    go_frame
    have hl5 := (HL.out.rng_start hrg hb5).nil_ints.swap
    obtain ⟨r, hr⟩ : ∃ r, w2.heap.size = r := ⟨_, rfl⟩
    rw [hr] at hl5 ⊢
    have HL5 := Lib.hid hl5
    clear hl5 hrg hb5 hs5 hr HM1 HL
    go_loopw [8] (fun v wx => ∃ d a c, v = .slice a (outD L d).length c ∧ Lab w0 wx (Thing.rng mb r mm d :: Thing.ints (.slice a (outD L d).length c) (outD L d) :: Thing.graph F I gb W room L :: ts)) (fun _ wx => rngLeft wx mb r)
    case atStart => exact ⟨[], none, 0, rfl, HL5.out⟩
    case round =>
      obtain ⟨d, a, c, rfl, hlab⟩ := hrel
      clear HL5
      have HLR := Lib.hid hlab
      have hrg := hlab.rng
      have HRG := Lib.hid hrg
      clear hlab hrg
      go_wp2_with (at_next; refine wpList_next_map rfl _ rfl rfl HRG.out ?_ ?_)
      · intro hperm
        have hpo := outD_end HF.out HMN.out HM3.out HM4.out hperm
        have hso : (outD L d).mergeSort leI = varsO L (occS L us) := sort_perm hpo
        have hln : (outD L d).length = (varsO L (occS L us)).length := by rw [← hso]; simp
        have hlo : (outD L d).length ≤ 1000000000 := by have := varsO_len (L := L) (S := occS L us); omega
        have hsort := sort_lab HLR.out.drop hlo
        rw [hso, hln] at hsort
        rw [hln]
        have HSORT := Lib.hid hsort
        clear hperm hpo hso hln hlo hsort HLR HRG
        go_wp2_with fail
        go_at_call 65
        refine HSORT.out.mono ?_
        rintro e w7 ⟨rfl, hl7⟩
        have HL7 := Lib.hid hl7
        clear hl7
        go_wp2
        go_ret2
        exact ⟨fun _ => ⟨_, _, rfl, HL7.out⟩, fun h => absurd hin h⟩
      · intro kk vv w6 l0 hmem hrg6 hlt6 hbut6 hen6
        obtain ⟨j, rfl, hj⟩ := rng_key HM3.out ⟨l0, hmem⟩
        obtain ⟨jn, rfl, hjs⟩ := HF.out.only _ _ hj
        obtain ⟨n, a', m', c', hln, hfj⟩ := HF.out.has jn hjs
        have hvv := hfj.symm.trans hj
        simp only [Option.some.injEq] at hvv
        subst hvv
        have hdl : d.length ≤ 1048576 := by have h1 := hmem.length_eq; have h2 := HML.out; simp only [List.length_append, List.length_cons] at h1; omega
        have hol := outD_len (L := L) (d := d)
        have hl6 := HLR.out.rng_next hrg6 hbut6
        obtain ⟨q, hq⟩ : ∃ q, w6.heap.size = q := ⟨_, rfl⟩
        have hl7 := hl6.alloc #[.int .u8 n.1, .int .u64 n.2.1, .slice a' m' c'] 88
        rw [hq] at hl7
        have HL7 := Lib.hid hl7; have HLN := Lib.hid hln
        clear hl6 hl7 hj hmem hrg6 hbut6 HRG hfj hjs hln hlt6
        go_upto_region 8 with fail
        clear hq hen6
        have hm0 := rngLeft_of HLR.out.rng
        have HM0 := Lib.hid hm0
        clear hm0 HLR
        refine wp_abs (fun w7 => Lab w0 w7 (Thing.box q 88 #[.int .u8 n.1, .int .u64 n.2.1, .slice a' m' c'] :: Thing.rng mb r mm (d ++ [(.int .i64 (jn : Int), .agg #[.int .u8 n.1, .int .u64 n.2.1, .slice a' m' c'])]) :: Thing.ints (.slice a (outD L d).length c) (outD L d) :: Thing.graph F I gb W room L :: ts)) HL7.out ?_
        clear HL7
        rintro w7 hl7
        obtain ⟨x0, x1, x2⟩ := cells3 hl7.box1
        have hgood := HG.out n (List.mem_of_getElem? HLN.out)
        by_cases h1 : n.1 = 1
        · have hb : (n.2.1 : Int) ≤ 4194303 := by unfold NodeGood at hgood; omega
          have h1' : ((n.1 : Int) == 1) = true := by rw [h1]; rfl
          have hadd := outD_add (d := d) (v := .agg #[.int .u8 n.1, .int .u64 n.2.1, .slice a' m' c']) (varN_some.2 ⟨n, HLN.out, h1, rfl⟩)
          have hl8 := (hl7.drop.swap.alloc #[.int .i64 (n.2.1 : Int)] 3).swap
          have hsrc := sliceOf_new w7 .i64 3 [(n.2.1 : Int)] 1
          have hlx : (outD L d).length + [(n.2.1 : Int)].length ≤ 1000000000 := by simp only [List.length_singleton]; omega
          have HL8 := Lib.hid hl8; have HADD := Lib.hid hadd; have HSRC := Lib.hid hsrc
          clear hl7 hl8 hadd hgood hsrc
          go_wp2_with (at_builtin; refine wpList_append_lab (.tmp 29) (.tmp 33) HL8.out HSRC.out rfl rfl rfl rfl hlx ?_; intro a9 c9 w9 hl9)
          have HL9 := Lib.hid (hl9.subl (ts' := Thing.ints (.slice a9 (outD L d ++ [(n.2.1 : Int)]).length c9) (outD L d ++ [(n.2.1 : Int)]) :: Thing.rng mb r mm (d ++ [(.int .i64 (jn : Int), .agg #[.int .u8 n.1, .int .u64 n.2.1, .slice a' m' c'])]) :: Thing.graph F I gb W room L :: ts) (.cons_cons _ (.cons _ (List.Sublist.refl _)))).swap
          clear hl9 HL8 HSRC x0 x1 x2
          go_roundw
          case rel => exact ⟨_, a9, c9, by rw [HADD.out, List.length_append]; rfl, by rw [HADD.out]; exact HL9.out⟩
          case measure =>
            have h2 := rngLeft_of HL9.out.rng
            have h3 := HM0.out
            rw [List.length_append] at h2
            simp only [List.length_singleton] at h2
            omega
        · have h1' : ((n.1 : Int) == 1) = false := by rw [beq_eq_false_iff_ne]; omega
          have hno : varN L jn = none := by
            cases e : varN L jn with
            | none => rfl
            | some x =>
              obtain ⟨n', e1, e2, -⟩ := varN_some.1 e
              rw [HLN.out] at e1
              cases e1
              exact absurd e2 h1
          have hadd := outD_not (d := d) (v := .agg #[.int .u8 n.1, .int .u64 n.2.1, .slice a' m' c']) hno
          have HL8 := Lib.hid hl7.drop; have HADD := Lib.hid hadd
          clear hl7 hadd hgood hno
          go_wp2
          go_roundw
          case rel => exact ⟨_, a, c, by rw [HADD.out], by rw [HADD.out]; exact HL8.out⟩
          case measure =>
            have h2 := rngLeft_of HL8.out.rng
            have h3 := HM0.out
            rw [List.length_append] at h2
            simp only [List.length_singleton] at h2
            omega
  · go_enter Tryz.func35, Tryz.ntmps35
    go_wp2_with fail
    go_at_call 64
    refine HO.out.mono ?_
    rintro e w2 ⟨-, h2⟩
    obtain ⟨rfl, rfl⟩ := h2 hin
    go_wp2
    go_ret2
    exact ⟨fun h => absurd h hin, fun _ => ⟨rfl, rfl⟩⟩
end
end Go.Proofs.YteamnchoddegpaaGreatDoor
namespace Go.Proofs.YteamnchoddegpaaGreatDoor
open Go.RowKit Go.Maps
set_option maxHeartbeats 3200000
theorem varsO_of {L : List PNode} {S : Nat → Bool} {ws : List Int} (h : (varsS L S).Perm ws) (hs : ws.Pairwise fun a b => leI a b = true) : varsO L S = ws := (sort_perm h).trans (sort_sorted hs)
theorem slice_of_box {w : World} {b T c : Nat} {k : IntKind} {xs : List Int} (h : w.heap[b]? = some (.cells (xs.map (Value.int k)).toArray T (0, 0))) : SliceOf w k (.slice (some ⟨b, 0, none⟩) xs.length c) xs := by
  refine ⟨_, _, c, rfl, rfl, fun i hi => ⟨b, 0, rfl, ?_⟩⟩
  simp [World.cell?, h, hi]
section
variable {w0 wr w' : World} {ts : List Thing} {F I : List Nat} {gb W room : Nat} {L : List PNode}
end
end Go.Proofs.YteamnchoddegpaaGreatDoor
namespace Go.Proofs.YteamnchoddegpaaGreatDoor
open Go.RowKit Go.Maps
set_option maxHeartbeats 6400000
section
variable {w0 wr w' : World} {ts : List Thing} {F I : List Nat} {rb W room : Nat} {L : List PNode}
theorem Lab.make1 {w0 wr : World} {ts : List Thing} (h : Lab w0 wr ts) (n T : Nat) (z : Value) : Lab w0 (wr.alloc (.cells (madeCells #[z] n) T)) (Thing.fn wr.heap.size T n (fun _ => z) :: ts) :=
  h.make (n := n) (madeCells #[z] n) T (fun _ => z) (size_madeCells _ _) (fun i hi => by rw [madeCells_at _ _ i hi]; simp [Nat.mod_one])
end
end Go.Proofs.YteamnchoddegpaaGreatDoor
namespace Go.Proofs.YteamnchoddegpaaGreatDoor
open Go.RowKit Go.Maps
set_option maxHeartbeats 6400000
section
variable {w0 wr w' : World} {ts : List Thing}
theorem wpList_append_labn {ops : Array Oper} {rest : List Oper} {o : Oper} {a : Act} {Q : Exit → Act → World → Prop} {ao : Option Addr} {c n : Nat} {xv : Value} {xs ys : List Int} (s x : Operand) (hl : xs.length = n) (h : Lab w0 wr (Thing.ints (.slice ao n c) xs :: ts)) (hsrc : SliceOf wr .i64 xv ys) (hgd : o.guard = none)
    (ho : o.op = .call { callee := .builtin .append, args := #[s, x], argTypes := #[24, 24] }) (hs : a.eval s = .slice ao n c) (hx : a.eval x = xv) (hn : n + ys.length ≤ 1000000000)
    (hK : ∀ a' c' w', Lab w0 w' (Thing.ints (.slice a' (n + ys.length) c') (xs ++ ys) :: ts) → wpList Tryz.prog ops Q rest (a.put o.dst (.slice a' (n + ys.length) c')) w') : wpList Tryz.prog ops Q (o :: rest) a wr := by
  subst hl
  refine wpList_append_lab s x h hsrc hgd ho hs hx hn fun a' c' w' hl' => ?_
  rw [List.length_append] at hl' ⊢
  exact hK a' c' w' hl'
end
end Go.Proofs.YteamnchoddegpaaGreatDoor
namespace Go.Proofs.YteamnchoddegpaaGreatDoor
open Go.RowKit Go.Maps
set_option maxHeartbeats 6400000
section
variable {w0 wr w' : World} {ts : List Thing} {F I : List Nat} {rb W room : Nat} {L : List PNode}
theorem count_le (S : Nat → Bool) (k : Nat) : ((List.range k).filter S).length ≤ k := by
  have := List.length_filter_le S (List.range k)
  rwa [List.length_range] at this
/-- A number put into a list. -/
def insL (out : List Int) (q : Nat) (x : Int) : List Int := out.take q ++ x :: out.drop q
theorem insL_perm (out : List Int) (q : Nat) (x : Int) : (insL out q x).Perm (out ++ [x]) := by
  unfold insL
  refine List.perm_middle.trans ?_
  rw [List.take_append_drop]
  exact (List.perm_append_singleton x out).symm
theorem insL_sorted {out : List Int} {q : Nat} {x : Int} (hq : q ≤ out.length) (hs : out.Pairwise fun a b => leI a b = true) (hlo : ∀ y, 0 < q → out[q - 1]? = some y → y ≤ x) (hhi : ∀ j y, q ≤ j → out[j]? = some y → x < y) : (insL out q x).Pairwise fun a b => leI a b = true := by
  have hget : ∀ (i j : Nat) (a b : Int), i < j → out[i]? = some a → out[j]? = some b → a ≤ b := fun i j a b hij ha hb => by
    obtain ⟨hi, ea⟩ := List.getElem?_eq_some_iff.1 ha
    obtain ⟨hj, eb⟩ := List.getElem?_eq_some_iff.1 hb
    have := List.pairwise_iff_getElem.1 hs i j hi hj hij
    unfold leI at this
    rw [decide_eq_true_eq] at this
    rw [← ea, ← eb]; exact this
  have hlow : ∀ a ∈ out.take q, a ≤ x := fun a ha => by
    obtain ⟨i, hi, e⟩ := List.getElem_of_mem ha
    rw [List.length_take] at hi
    have h1 : out[i]? = some a := by rw [List.getElem?_eq_getElem (by omega), ← e, List.getElem_take]
    obtain ⟨y, hy⟩ : ∃ y, out[q - 1]? = some y := ⟨_, List.getElem?_eq_getElem (by omega)⟩
    have h2 := hlo y (by omega) hy
    by_cases e2 : i = q - 1
    · subst e2; rw [hy] at h1; cases h1; exact h2
    · have := hget i (q - 1) a y (by omega) h1 hy
      omega
  have hhigh : ∀ b ∈ out.drop q, x < b := fun b hb => by
    obtain ⟨i, hi, e⟩ := List.getElem_of_mem hb
    rw [List.length_drop] at hi
    exact hhi (q + i) b (by omega) (by rw [List.getElem?_eq_getElem (by omega), ← e, List.getElem_drop])
  unfold insL
  rw [List.pairwise_append, List.pairwise_cons]
  refine ⟨hs.sublist (List.take_sublist _ _), ⟨fun b hb => ?_, hs.sublist (List.drop_sublist _ _)⟩, fun a ha b hb => ?_⟩
  · have := hhigh b hb
    unfold leI; rw [decide_eq_true_eq]; omega
  · have h1 := hlow a ha
    unfold leI; rw [decide_eq_true_eq]
    rcases List.mem_cons.1 hb with rfl | hb
    · exact h1
    · have := hhigh b hb; omega
theorem Lab.row_set {E g n cap : Nat} {cells : List Value} (h : Lab w0 wr (Thing.row E 1 (.slice (some ⟨g, 0, none⟩) n cap) n cells :: ts)) (j : Nat) (u : Value) : Lab w0 (wr.setCell ⟨g, j, none⟩ u) (Thing.row E 1 (.slice (some ⟨g, 0, none⟩) n cap) n (cells.set j u) :: ts) := by
  have hs := World.ownsRow.stored h.head j u
  refine h.turn (s' := Thing.row E 1 (.slice (some ⟨g, 0, none⟩) n cap) n (cells.set j u)) ⟨rfl, rfl, rfl, by rw [World.size_setCell]; exact Nat.le_refl _, fun k hk hn => heap_setCell_other _ _ _ _ (by simpa [Thing.row, Value.ownBlock] using hn)⟩ hs.1 (fun k hk => .inl hk) (fun k hk => .inl hk) (fun k hk => ?_)
  rw [World.size_setCell]
  exact h.high (Thing.row E 1 (.slice (some ⟨g, 0, none⟩) n cap) n cells) (by simp) k hk
end
end Go.Proofs.YteamnchoddegpaaGreatDoor
namespace Go.Proofs.YteamnchoddegpaaGreatDoor
open Go.RowKit Go.Maps
set_option maxHeartbeats 6400000
section
variable {w0 wr w' : World} {ts : List Thing} {F I : List Nat} {rb W room : Nat} {L : List PNode}
theorem vars_next (L : List PNode) (S : Nat → Bool) (k : Nat) : ((List.range (k + 1)).filter S).filterMap (varN L) = ((List.range k).filter S).filterMap (varN L) ++ (if S k = true then (varN L k).toList else []) := by
  rw [List.range_succ, List.filter_append, List.filterMap_append]
  congr 1
  cases h : S k
  · simp [h]
  · rw [if_pos rfl]
    cases hv : varN L k <;> simp [h, hv]
/-- What has been found is in order. -/
structure Found (L : List PNode) (S : Nat → Bool) (k : Nat) (out : List Int) : Prop where
  sorted : out.Pairwise fun a b => leI a b = true
  perm : out.Perm (((List.range k).filter S).filterMap (varN L))
theorem Found.start (L : List PNode) (S : Nat → Bool) : Found L S 0 [] := ⟨.nil, .nil⟩
theorem Found.skip {S : Nat → Bool} {k : Nat} {out : List Int} (h : Found L S k out) (hs : S k = false ∨ varN L k = none) : Found L S (k + 1) out := by
  refine ⟨h.sorted, ?_⟩
  rw [vars_next]
  rcases hs with hs | hs
  · rw [if_neg (by rw [hs]; decide), List.append_nil]; exact h.perm
  · rw [hs]
    have : (if S k = true then (none : Option Int).toList else []) = [] := by split <;> rfl
    rw [this, List.append_nil]; exact h.perm
theorem Found.put {S : Nat → Bool} {k q : Nat} {out : List Int} {x : Int} (h : Found L S k out) (hs : S k = true) (hx : varN L k = some x) (hq : q ≤ out.length) (hlo : ∀ y, 0 < q → out[q - 1]? = some y → y ≤ x) (hhi : ∀ j y, q ≤ j → out[j]? = some y → x < y) : Found L S (k + 1) (insL out q x) := by
  refine ⟨insL_sorted hq h.sorted hlo hhi, ?_⟩
  rw [vars_next, if_pos hs, hx]
  exact (insL_perm out q x).trans (h.perm.append_right [x])
theorem Found.end_ {S : Nat → Bool} {out : List Int} (h : Found L S L.length out) : varsO L S = out := varsO_of h.perm.symm h.sorted
theorem Found.len {S : Nat → Bool} {k : Nat} {out : List Int} (h : Found L S k out) : out.length ≤ k := by
  rw [h.perm.length_eq]
  exact Nat.le_trans (List.length_filterMap_le _ _) (count_le S k)
end
end Go.Proofs.YteamnchoddegpaaGreatDoor
namespace Go.Proofs.YteamnchoddegpaaGreatDoor
open Go.RowKit Go.Maps
set_option maxHeartbeats 800000
theorem numOf_nodeAt (L : List PNode) (t : Int) : numOf L t = if (nodeAt L t).2 = 0 ∧ (nodeAt L t).1.1 = 0 then some (nodeAt L t).1.2.1 else none := by
  by_cases hc : 0 ≤ t ∧ t < (L.length : Int)
  · obtain ⟨z, rfl⟩ := Int.eq_ofNat_of_zero_le hc.1
    obtain ⟨n, hn⟩ : ∃ n, L[z]? = some n := ⟨_, List.getElem?_eq_getElem (by omega)⟩
    rw [nodeAt_in hn]
    unfold numOf
    rw [if_pos hc.1, Int.toNat_natCast, hn]
    by_cases h : n.1 = 0 <;> simp [h]
  · have e : nodeAt L t = ((0, 0, []), 3) := if_neg hc
    rw [e]
    unfold numOf
    by_cases h0 : 0 ≤ t
    · rw [if_pos h0, List.getElem?_eq_none (by omega)]; simp
    · rw [if_neg h0]; simp
theorem numD_at (L : List PNode) (t : Int) : numD L t = if (nodeAt L t).2 = 0 ∧ (nodeAt L t).1.1 = 0 then (nodeAt L t).1.2.1 else 0 := by
  unfold numD; rw [numOf_nodeAt]; split <;> rfl
theorem isNum_at (L : List PNode) (t : Int) : isNum L t = decide ((nodeAt L t).2 = 0 ∧ (nodeAt L t).1.1 = 0) := by
  unfold isNum; rw [numOf_nodeAt]; split <;> simp [*]
theorem number_any {w : World} {base : Nat} {F I : List Nat} {gb W room : Nat} {L : List PNode} (h : Gr w base F I gb W room L) (t : Int) :
    Calls Tryz.prog 101 #[.pointer (some ⟨gb, 0, none⟩), .int .i64 t] w fun e w' => e = .returned (.tuple #[.int .u64 (numD L t), .bool (isNum L t)]) ∧ Below w.heap.size w w' := by
  have hn := node_t h t
  rw [numD_at, isNum_at]
  obtain ⟨R, hR⟩ : ∃ R, nodeAt L t = R := ⟨_, rfl⟩
  rw [hR] at hn ⊢
  obtain ⟨⟨op, num, xs⟩, er⟩ := R
  simp only at hn ⊢
  have HN := Lib.hid hn
  clear hn h hR
  by_cases he : er = 0
  · subst he
    by_cases h0 : op = 0
    · subst h0
      have e1 : (((0 : Nat) : Int) != 0) = false := by simp
      go_enter Tryz.func101, Tryz.ntmps101
      go_wp2_with fail
      go_at_call 67
      refine HN.out.mono ?_
      rintro e w1 ⟨a, m, c, rfl, -, hb⟩
      have HB := Lib.hid (hb.alloc hb.size (.cells #[.int .u8 ((0 : Nat) : Int), .int .u64 num, .slice a m c] 88))
      clear hb
      go_wp2
      go_ret2
      exact ⟨by simp, HB.out⟩
    · have e1 : (((0 : Nat) : Int) != 0) = false := by simp
      have e2 : ((op : Int) != 0) = true := by rw [bne_iff_ne]; omega
      have HR : ¬ ((0 : Nat) = 0 ∧ op = 0) := fun h => h0 h.2
      rw [if_neg HR, decide_eq_false HR]
      clear HR h0
      go_enter Tryz.func101, Tryz.ntmps101
      go_wp2_with fail
      go_at_call 67
      refine HN.out.mono ?_
      rintro e w1 ⟨a, m, c, rfl, -, hb⟩
      have HB := Lib.hid (hb.alloc hb.size (.cells #[.int .u8 op, .int .u64 num, .slice a m c] 88))
      clear hb
      go_wp2
      go_ret2
      exact ⟨rfl, HB.out⟩
  · have e1 : ((er : Int) != 0) = true := by rw [bne_iff_ne]; omega
    have HR : ¬ (er = 0 ∧ op = 0) := fun h => he h.1
    rw [if_neg HR, decide_eq_false HR]
    clear HR he
    go_enter Tryz.func101, Tryz.ntmps101
    go_wp2_with fail
    go_at_call 67
    refine HN.out.mono ?_
    rintro e w1 ⟨a, m, c, rfl, -, hb⟩
    have HB := Lib.hid (hb.alloc hb.size (.cells #[.int .u8 op, .int .u64 num, .slice a m c] 88))
    clear hb
    go_wp2
    go_ret2
    exact ⟨rfl, HB.out⟩
/-- An operator with its arguments, in memory. -/
structure Asked (w : World) (xb gb ab ca nb ib n : Nat) (L : List PNode) (o : Nat) (xs : List Int) : Prop where
  len : xs.length = n
  nlt : n ≤ 3
  ncap : n ≤ ca
  c0 : w.cell? ⟨xb, 0, none⟩ = some (.pointer (some ⟨gb, 0, none⟩))
  c1 : w.cell? ⟨xb, 1, none⟩ = some (.int .u8 o)
  c2 : w.cell? ⟨xb, 2, none⟩ = some (.slice (some ⟨ab, 0, none⟩) n ca)
  c3 : w.cell? ⟨xb, 3, none⟩ = some (.slice (some ⟨nb, 0, none⟩) n n)
  c4 : w.cell? ⟨xb, 4, none⟩ = some (.slice (some ⟨ib, 0, none⟩) n n)
  a : ∀ i, i < n → w.cell? ⟨ab, i, none⟩ = some (.int .i64 (xs.getD i 0))
  num : ∀ i, i < n → w.cell? ⟨nb, i, none⟩ = some (.int .u64 (numD L (xs.getD i 0)))
  is : ∀ i, i < n → w.cell? ⟨ib, i, none⟩ = some (.bool (isNum L (xs.getD i 0)))
section
variable {w w' : World} {xb gb ab ca nb ib n W room : Nat} {L : List PNode} {o : Nat} {xs : List Int} {base : Nat} {F I : List Nat}
theorem Asked.below (h : Asked w xb gb ab ca nb ib n L o xs) (hb : Below w.heap.size w w') : Asked w' xb gb ab ca nb ib n L o xs :=
  ⟨h.len, h.nlt, h.ncap, cell_later hb h.c0, cell_later hb h.c1, cell_later hb h.c2, cell_later hb h.c3, cell_later hb h.c4, fun i hi => cell_later hb (h.a i hi), fun i hi => cell_later hb (h.num i hi), fun i hi => cell_later hb (h.is i hi)⟩
theorem anumber_any (h : Asked w xb gb ab ca nb ib n L o xs) (i : Nat) (hi : i < n) (v : Nat) :
    Calls Tryz.prog 144 #[.pointer (some ⟨xb, 0, none⟩), .int .i64 i, .int .u64 v] w fun e w' => e = .returned (.bool (decide (isNum L (xs.getD i 0) = true ∧ numD L (xs.getD i 0) = v))) ∧ w = w' := by
  have c3 := h.c3
  have c4 := h.c4
  have d1 := h.num i hi
  have d2 := h.is i hi
  have hn3 := h.nlt
  obtain ⟨q, hq⟩ : ∃ q, numD L (xs.getD i 0) = q := ⟨_, rfl⟩
  rw [hq] at d1 ⊢
  clear h hq
  cases hc : isNum L (xs.getD i 0) with
  | true =>
    rw [hc] at d2
    by_cases hv : q = v
    · have e1 : ((q : Int) == (v : Int)) = true := by rw [beq_iff_eq]; omega
      rw [decide_eq_true ⟨rfl, hv⟩]
      clear hv hc
      go_enter Tryz.func144, Tryz.ntmps144
      go_wp2
      go_ret
      exact ⟨rfl, rfl⟩
    · have e1 : ((q : Int) == (v : Int)) = false := by rw [beq_eq_false_iff_ne]; omega
      rw [decide_eq_false (fun h => hv h.2)]
      clear hv hc
      go_enter Tryz.func144, Tryz.ntmps144
      go_wp2
      go_ret
      exact ⟨rfl, rfl⟩
  | false =>
    rw [hc] at d2
    rw [decide_eq_false (fun h => by cases h.1)]
    clear hc
    go_enter Tryz.func144, Tryz.ntmps144
    go_wp2
    go_ret
    exact ⟨rfl, rfl⟩
theorem ones_any (h : Asked w xb gb ab ca nb ib n L o xs) (hg : Gr w base F I gb W room L) :
    Calls Tryz.prog 148 #[.pointer (some ⟨xb, 0, none⟩)] w fun e w' => e = .returned (.int .u64 ((2 ^ W - 1 : Nat) : Int)) ∧ w = w' := by
  have c0 := h.c0
  have h1 := hg.w1
  have h2 := hg.w2
  have htr := trim_any W 18446744073709551615 (by omega) (by omega) w
  have e3 : trimI W 18446744073709551615 = ((2 ^ W - 1 : Nat) : Int) := by
    unfold trimI
    rw [if_pos (chk_in (by omega) (by omega)), Int.toNat_natCast]
    congr 1
    exact ones_mod' h2
  rw [e3, chk_in (by omega) (by omega)] at htr
  have HT := Lib.hid htr; have HG := Lib.hid hg
  clear h hg htr e3
  generalize 2 ^ W - 1 = M at *
  go_enter Tryz.func148, Tryz.ntmps148
  go_wp2_with (first | (go_at_call 70; refine (width_any HG.out).mono ?_; rintro e w1 ⟨rfl, rfl⟩) | (go_at_call 56; refine HT.out.mono ?_; rintro e w2 ⟨rfl, rfl⟩))
  go_ret
  exact ⟨rfl, rfl⟩
end
end Go.Proofs.YteamnchoddegpaaGreatDoor
