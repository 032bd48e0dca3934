/- Package support: what occurs in terms. -/
import Derived.Test.YtofbadmjopefpaaSupP
import Derived.Test.YtofbadmjopefpaaSets
import Derived.WalkSmall
import Derived.Deep.Upon
import Derived.WalkMore
namespace Go.Proofs.Ytofbadmjopefpaa
open Go.RowKit Go.Maps
set_option maxHeartbeats 3200000

section
variable {w0 wr w' : World} {ts : List Thing} {F I : List Nat} {gb W room : Nat} {L : List PNode}
theorem own_some' {w : World} {B E : Nat} {k : IntKind} {v : Value} {xs : List Int} (h : OwnInts w B E k v xs) (h0 : xs ≠ []) : ∃ g cap, v = .slice (some ⟨g, 0, none⟩) xs.length cap := by
  rcases h.2 with ⟨-, h1⟩ | ⟨g, cap, cur, rfl, -⟩
  · exact absurd (List.length_eq_zero_iff.1 h1) h0
  · exact ⟨g, cap, rfl⟩
/-- The last one is let go. -/
theorem Lab.pop {a : Option Addr} {c : Nat} {xs : List Int} {t : Int} (h : Lab w0 wr (Thing.ints (.slice a (xs.length + 1) c) (xs ++ [t]) :: ts)) : Lab w0 wr (Thing.ints (.slice a xs.length c) xs :: ts) := by
  refine h.say (s' := Thing.ints (.slice a xs.length c) xs) ?_ (fun k hk => by simp [Thing.ints, Thing.row] at hk) (fun hh => ?_)
  · cases a <;> rfl
  · have hh' : OwnInts wr 0 3 .i64 (.slice a (xs.length + 1) c) (xs ++ [t]) := hh
    obtain ⟨g, cap, e⟩ := own_some' hh' (by simp)
    simp only [Value.slice.injEq] at e
    obtain ⟨rfl, -, rfl⟩ := e
    unfold OwnInts at hh'
    rw [List.length_append, List.map_append] at hh'
    exact ownsRow_pop (by rw [List.length_map, Nat.mul_one]) hh'
theorem Lab.ints_cap {a : Option Addr} {m c : Nat} {xs : List Int} (h : Lab w0 wr (Thing.ints (.slice a m c) xs :: ts)) : m ≤ c ∧ m = xs.length := by
  rcases h.ints.2 with ⟨h1, h2⟩ | ⟨g, cap, cur, h1, -, -, h2, -⟩
  · simp only [Value.slice.injEq] at h1; omega
  · simp only [Value.slice.injEq] at h1; omega
/-- A list is appended to an own one. -/
theorem wpList_append_lab {ops : Array Oper} {rest : List Oper} {o : Oper} {a : Act} {Q : Exit → Act → World → Prop} {ao : Option Addr} {c : Nat} {xv : Value} {xs ys : List Int} (s x : Operand) (h : Lab w0 wr (Thing.ints (.slice ao xs.length c) xs :: ts)) (hsrc : SliceOf wr .i64 xv ys) (hgd : o.guard = none)
    (ho : o.op = .call { callee := .builtin .append, args := #[s, x], argTypes := #[26, 26] }) (hs : a.eval s = .slice ao xs.length c) (hx : a.eval x = xv) (hn : xs.length + ys.length ≤ 1000000000)
    (hK : ∀ a' c' w', Lab w0 w' (Thing.ints (.slice a' (xs ++ ys).length c') (xs ++ ys) :: ts) → wpList Try.prog ops Q rest (a.put o.dst (.slice a' (xs ++ ys).length c')) w') : wpList Try.prog ops Q (o :: rest) a wr := by
  by_cases hy : ys = []
  · subst hy
    obtain ⟨i0, hi0, hz0, hz1, hz2⟩ := info_parts Try.infoI64
    obtain ⟨a2, c2, hxv, -, -⟩ := hsrc.src
    have hrun := run_append_nothing (P := Try.prog) wr 26 26 o.type 3 i0 Try.underlying26 hi0 ao xs.length c (h.ints_cap.1) xv (by subst hxv; cases a2 with | none => exact Src.ofNil wr Try.underlying26 c2 | some ad => exact Src.ofSlice wr Try.underlying26 ad 0 c2 [] (by simp) (by simp) (by simp))
    refine wpList_plain hgd fun _ hK' => ?_
    unfold Oper.wp execOp
    simp only [ho, resolve, invoke, builtin, Sem.run_bind, Sem.run_pure, Result.andThen_ok, List.map_toArray, List.map_cons, List.map_nil, hs, hx, hrun]
    have := hK ao c wr (by rw [List.append_nil]; exact h)
    rw [List.append_nil] at this
    exact hK' _ _ this
  · have hown : wr.ownsRow 0 3 1 (.slice ao xs.length c) xs.length (xs.map (Value.int .i64)) := h.ints
    have h1 : ∀ u ∈ ys.map (Value.int .i64), u.oneCell' = true := fun u hu => by
      obtain ⟨y, _, rfl⟩ := List.mem_map.1 hu
      rfl
    obtain ⟨v', w', hr, h2, h3⟩ := run_append_src (P := Try.prog) wr 0 26 o.type 3 1 8 (.int .i64 0) Try.underlying26 Try.infoI64 rfl (by decide) (by decide) _ xv xs.length ys.length _ _ hown hsrc.src h1 hn (Nat.zero_le _)
    have hpos : 0 < ys.length := List.length_pos_iff.2 hy
    have blk := append_block (P := Try.prog) (T := 26) (ty := o.type) (bytes := 8) (z := .int .i64 0) Try.underlying26 Try.infoI64 (by decide) hown hsrc.src h1 hpos hn hr
    obtain ⟨a', c', rfl⟩ : ∃ a' c', v' = .slice a' (xs.length + ys.length) c' := by
      rcases h2.2 with ⟨_, h0⟩ | ⟨g, cap, cur, rfl, _⟩
      · omega
      · exact ⟨_, _, rfl⟩
    refine wpList_plain hgd fun _ hK' => ?_
    unfold Oper.wp execOp
    simp only [ho, resolve, invoke, builtin, Sem.run_bind, Sem.run_pure, Result.andThen_ok, List.map_toArray, List.map_cons, List.map_nil, hs, hx, hr]
    have hl : Lab w0 w' (Thing.ints (.slice a' (xs.length + ys.length) c') (xs ++ ys) :: ts) := by
      have hown2 : OwnInts w' 0 3 .i64 (.slice a' (xs.length + ys.length) c') (xs ++ ys) := by
        unfold OwnInts
        rw [List.length_append, List.map_append]
        exact h2
      refine h.turn (s' := Thing.ints (.slice a' (xs.length + ys.length) c') (xs ++ ys)) ⟨h3.os, h3.tape, h3.output, h3.size, fun b hb hn => h3.block b hb (fun e => hn (by simp [Thing.ints, Thing.row, ← e]))⟩ hown2 (fun k hk => ?_) (fun k hk => by simp [Thing.ints, Thing.row] at hk) (fun k hk => ?_)
      · have hk' : (Value.slice a' (xs.length + ys.length) c').ownBlock = some k := by simpa [Thing.ints, Thing.row] using hk
        exact (blk k hk').imp (fun e => by simp [Thing.ints, Thing.row, e]) id
      · rcases hk with hk | hk
        · exact (World.ownsRow.lt hown2 k (by simpa [Thing.ints, Thing.row] using hk)).2
        · simp [Thing.ints, Thing.row] at hk
    have := hK a' c' w' (by rw [List.length_append]; exact hl)
    rw [List.length_append] at this
    exact hK' _ _ this
end
/-- The map of nodes that were seen. -/
structure NodeF (L : List PNode) (S : Nat → Bool) (f : Int → Option Value) : Prop where
  has : ∀ j : Nat, S j = true → ∃ n a m c, L[j]? = some n ∧ f (j : Int) = some (.agg #[.int .u8 n.1, .int .u64 n.2.1, .slice a m c])
  only : ∀ k v, f k = some v → ∃ j : Nat, k = (j : Int) ∧ S j = true
theorem NodeF.start (L : List PNode) : NodeF L (fun _ => false) (fun _ => Option.none) := ⟨fun j h => (by cases h), fun k v h => (by cases h)⟩
theorem NodeF.put {L : List PNode} {S : Nat → Bool} {f : Int → Option Value} (h : NodeF L S f) {t : Nat} {n : PNode} (hn : L[t]? = some n) (a : Option Addr) (m c : Nat) : NodeF L (mark S t) (fun k => if k = (t : Int) then some (.agg #[.int .u8 n.1, .int .u64 n.2.1, .slice a m c]) else f k) := by
  refine ⟨fun j hj => ?_, fun k v hk => ?_⟩
  · by_cases e : j = t
    · subst e
      exact ⟨n, a, m, c, hn, if_pos rfl⟩
    · have hj' : S j = true := by unfold mark at hj; rwa [if_neg e] at hj
      obtain ⟨n', a', m', c', h1, h2⟩ := h.has j hj'
      exact ⟨n', a', m', c', h1, by rw [if_neg (by omega)]; exact h2⟩
  · by_cases e : k = (t : Int)
    · exact ⟨t, e, mark_self⟩
    · rw [if_neg e] at hk
      obtain ⟨j, h1, h2⟩ := h.only k v hk
      exact ⟨j, h1, mark_old h2⟩
theorem Lab.subl {w0 wr : World} {ts ts' : List Thing} (h : Lab w0 wr ts) (hs : ts'.Sublist ts) : Lab w0 wr ts' :=
  ⟨h.below, fun t ht => h.holds t (hs.subset ht), fun t ht => h.low t (hs.subset ht), fun t ht => h.high t (hs.subset ht), h.apart.sublist hs⟩
/-- How many entries a map has. -/
def mlen (w : World) (mb : Nat) : Nat := match w.heap[mb]? with | some (.map es _) => es.size | _ => 0
theorem mlen_of {w : World} {mb c : Nat} {K : TypeId} {kd : IntKind} {f : Int → Option Value} (h : MapF Try.prog K kd w mb f c) : mlen w mb = c := by
  obtain ⟨m, ⟨es, clock, h1, h2, h3, -⟩, hc, -⟩ := h
  unfold mlen
  rw [h1]
  have := h3.length_eq
  simpa [← hc] using this
def slen : Value → Nat | .slice _ n _ => n | _ => 0
/-- What grows less with each round. -/
def supMeas (N mb : Nat) (v : Value) (w : World) : Nat := 4 * (N - mlen w mb) + slen v
theorem supMeas_of {w : World} {N mb c : Nat} {K : TypeId} {kd : IntKind} {f : Int → Option Value} (h : MapF Try.prog K kd w mb f c) (a : Option Addr) (n cc : Nat) : supMeas N mb (.slice a n cc) w = 4 * (N - c) + n := by
  unfold supMeas; rw [mlen_of h]; rfl
theorem argsOf_at {L : List PNode} {t : Nat} {n : PNode} (h : L[t]? = some n) : argsOf L t = n.2.2 := by unfold argsOf; rw [h]
theorem zeroNode (w : World) : (zeroValue 54).run Try.prog w = .ok (.agg #[.int .u8 0, .int .u64 0, .slice none 0 0]) w := by kernel_rfl
section
variable {w0 wr w' : World} {ts : List Thing} {F I : List Nat} {gb W room : Nat} {L : List PNode}
/-- What occur answers. -/
def OccEnd (w0 : World) (F I : List Nat) (gb W room : Nat) (L : List PNode) (ts : List Thing) (us : List Int) (e : Ending) (w' : World) : Prop :=
  ∃ mb f, e = .returned (.tuple #[.map (some mb), .int .i64 0]) ∧ NodeF L (occS L us) f ∧ Lab w0 w' (Thing.mapf 3 .i64 mb f (cntS L (occS L us)) :: Thing.graph F I gb W room L :: ts)
def OccPost (w0 wr : World) (F I : List Nat) (gb W room : Nat) (L : List PNode) (ts : List Thing) (us : List Int) (e : Ending) (w' : World) : Prop :=
  (InL L us → OccEnd w0 F I gb W room L ts us e w') ∧ (¬ InL L us → e = .returned (.tuple #[.map none, .int .i64 3]) ∧ wr = w')
set_option maxRecDepth 100000 in
theorem occur_nil (w : World) (v : Value) : Calls Try.prog 32 #[.pointer none, v] w fun e w' => e = .returned (.tuple #[.map none, .int .i64 1]) ∧ w = w' := by
  go_enter Try.func32, Try.ntmps32
  go_wp2
  go_step3
  go_wp2
  rw [Exit.noGoto_ret]
  go_ret2
  exact ⟨rfl, rfl⟩
set_option maxRecDepth 100000 in
theorem occur_any (h : Lab w0 wr (Thing.graph F I gb W room L :: ts)) (v : Value) (us : List Int) (hv : SliceOf wr .i64 v us) (hn : us.length ≤ 900000000) :
    Calls Try.prog 32 #[.pointer (some ⟨gb, 0, none⟩), v] wr (OccPost w0 wr F I gb W room L ts us) := by
  have hll : L.length ≤ 1048576 := by have := h.gr.len; have := h.gr.r2; omega
  have hwf := h.gr.wf
  obtain ⟨va, n, vc, rfl, hvn, -⟩ := hv.parts
  have hlen : Calls Try.prog 25 #[.pointer (some ⟨gb, 0, none⟩)] wr fun e w' => e = .returned (.int .i64 L.length) ∧ wr = w' := len_any h.gr
  have HL := Lib.hid h; have HV := Lib.hid (And.intro hv hvn); have HLEN := Lib.hid hlen; have HWF := Lib.hid hwf
  have hn' : n ≤ 900000000 := by omega
  clear h hv hvn hlen hn hwf
  go_enter Try.func32, Try.ntmps32
  go_wp2
  go_step3
  go_wp2
  obtain ⟨w1, hw1⟩ : ∃ w1, w1 = wr := ⟨_, rfl⟩
  have HW1 := Lib.hid hw1
  clear hw1
  go_loopw [19] (fun i wx => ∃ k : Nat, k ≤ n ∧ i = .int .i64 k ∧ wx = w1 ∧ InL L (us.take k)) (fun i _ => n - (intOf i).toNat)
  case atStart => exact ⟨0, by omega, rfl, HW1.out.symm, by simp [InL]⟩
  case round =>
    obtain ⟨k, hk, rfl, hwx, hin⟩ := hrel
    have hwx2 := hwx.trans HW1.out
    clear hwx
    subst hwx2
    by_cases hlt : k < n
    · have hlt' : (k : Int) < (n : Int) := by omega
      obtain ⟨b, off, x, rfl, hc, hx⟩ := HV.out.1.parts' hlt
      have hnext : us.take (k + 1) = us.take k ++ [x] := by rw [List.take_add_one, hx]; rfl
      have hmem := List.mem_of_getElem? hx
      have HN := Lib.hid (And.intro hin (And.intro hnext hmem))
      clear hin hnext hmem hx
      by_cases hxr : 0 ≤ x ∧ x < (L.length : Int)
      · have x0 : ¬ x < 0 := by omega
        have x1 : ¬ (L.length : Int) ≤ x := by omega
        go_wp2_with (go_at_call 25; refine HLEN.out.mono ?_; rintro e w2 ⟨rfl, rfl⟩)
        go_roundw
        case rel =>
          refine ⟨k + 1, by omega, by go_num, HW1.out.symm, ?_⟩
          rw [HN.out.2.1]
          intro t ht
          rcases List.mem_append.1 ht with h1 | h1
          · exact HN.out.1 t h1
          · rw [List.mem_singleton.1 h1]; exact hxr
        case measure => simp [intOf]; omega
      · have hno : ¬ InL L us := fun h => hxr (h x HN.out.2.2)
        by_cases x0 : x < 0
        · go_wp2_with (go_at_call 25; refine HLEN.out.mono ?_; rintro e w2 ⟨rfl, rfl⟩)
          rw [Exit.noGoto_ret]
          go_ret2
          exact ⟨fun h => absurd h hno, fun _ => ⟨rfl, rfl⟩⟩
        · have x1 : (L.length : Int) ≤ x := by omega
          go_wp2_with (go_at_call 25; refine HLEN.out.mono ?_; rintro e w2 ⟨rfl, rfl⟩)
          rw [Exit.noGoto_ret]
          go_ret2
          exact ⟨fun h => absurd h hno, fun _ => ⟨rfl, rfl⟩⟩
    · obtain rfl : k = n := by omega
      rw [List.take_of_length_le (by rw [HV.out.2]; exact Nat.le_refl _)] at hin
      have HIN := Lib.hid hin
      clear hin hk hlt
      obtain ⟨mb, hmb⟩ : ∃ mb, wr.heap.size = mb := ⟨_, rfl⟩
      have hl2 := HL.out.new_map 3 .i64
      rw [hmb] at hl2
      have HL2 := Lib.hid hl2
      have hsl := HV.out.1.below (below_new wr (.map #[] 0))
      have HSL := Lib.hid hsl
      have hmm := @run_makeMap Try.prog
      clear hl2 hsl
      go_upto_region 10 with fail
      clear hmb hmm
      refine wp_abs (fun w2 => Lab w0 w2 (Thing.mapf 3 .i64 mb (fun _ => none) 0 :: Thing.graph F I gb W room L :: ts) ∧ SliceOf w2 .i64 (.slice va k vc) us) ⟨HL2.out, HSL.out⟩ ?_
      clear HL2 HSL HLEN
      rintro w2 ⟨hl2, hsl⟩
      have hul : us.length ≤ 1000000000 := by have := HV.out.2; omega
      have HL2 := Lib.hid hl2
      clear hl2
      go_wp2_with (at_builtin; refine wpList_append_copy 26 3 .i64 8 _ _ _ us hsl _ _ rfl rfl Try.underlying26 Try.infoI64 (by decide) rfl rfl hul (Nat.le_refl _) ?_; intro v3 w3 hown3 hb3)
      go_step3
      have hl3 := (HL2.out.new_ints hb3 hown3).swap
      obtain ⟨a3, m3, c3, rfl⟩ := hown3.val
      obtain rfl : m3 = us.length := hl3.swap.ints_cap.2
      have HL3 := Lib.hid hl3
      clear hl3 hown3 hb3 hsl HL2
      have hul9 : us.length ≤ 900000000 := by have := HV.out.2; omega
      go_wp2
      go_loopw [9] (fun v wx => ∃ st a c S f, v = .slice a st.length c ∧ SupInv L us S st ∧ NodeF L S f ∧ st.length ≤ us.length + 3 * cntS L S ∧ Lab w0 wx (Thing.mapf 3 .i64 mb f (cntS L S) :: Thing.ints (.slice a st.length c) st :: Thing.graph F I gb W room L :: ts)) (fun v wx => supMeas L.length mb v wx)
      case atStart => exact ⟨us, a3, c3, fun _ => false, fun _ => none, rfl, SupInv.start HIN.out, NodeF.start L, by omega, by rw [cntS_none]; exact HL3.out⟩
      case round =>
        obtain ⟨st, a, c, S, f, rfl, hinv, hf, hst, hl⟩ := hrel
        clear HL3
        have hmf : MapF Try.prog 3 .i64 wr mb f (cntS L S) := hl.mapf
        rcases List.eq_nil_or_concat st with rfl | ⟨xs, t, rfl⟩
        · have hS := hinv.end_
          subst hS
          have HF := Lib.hid hf; have HL4 := Lib.hid hl
          clear hf hl hinv hmf
          go_wp2
          rw [Exit.noGoto_ret]
          go_ret2
          exact ⟨fun _ => ⟨mb, f, rfl, HF.out, HL4.out.swap.drop⟩, fun h => absurd HIN.out h⟩
        · rw [List.concat_eq_append] at hinv hst hl ⊢
          have hlen1 : (xs ++ [t]).length = xs.length + 1 := by simp
          rw [hlen1] at hst hl ⊢
          have ht := hinv.st_in t (by simp)
          obtain ⟨tn, rfl⟩ := Int.eq_ofNat_of_zero_le ht.1
          have htl : tn < L.length := by omega
          have hown : OwnInts wr 0 3 .i64 (.slice a (xs.length + 1) c) (xs ++ [(tn : Int)]) := hl.second
          obtain ⟨g, cap, e⟩ := own_some' hown (by simp)
          simp only [Value.slice.injEq] at e
          obtain ⟨rfl, -, rfl⟩ := e
          have hcap := (hl.swap.ints_cap).1
          have hcap' : (xs.length : Int) + 1 ≤ (c : Int) := by omega
          have d0 := (OwnInts.slice hown).at (i := xs.length) (q := (tn : Int)) (by simp)
          rw [Nat.zero_add] at d0
          have hcs := cntS_le (L := L) (S := S)
          have hxl : xs.length ≤ 910000000 := by omega
          have hlp := hl.swap.pop
          have hmeas : supMeas L.length mb (.slice (some ⟨g, 0, none⟩) (xs.length + 1) c) wr = 4 * (L.length - cntS L S) + (xs.length + 1) := by unfold supMeas; rw [mlen_of hmf]; rfl
          cases hS : S tn with
          | true =>
            obtain ⟨n, a', m', c', -, hfn⟩ := hf.has tn hS
            have hask := hmf.hit (T := 74) (E := 54) Try.underlying3 Try.underlying74 (k := (tn : Int)) (wf_i64 (by omega) (by omega)) hfn true
            have HINV := Lib.hid (hinv.skip (by rw [Int.toNat_natCast]; exact hS)); have HF := Lib.hid hf; have HL4 := Lib.hid hlp.swap; have HM := Lib.hid hmeas
            clear hinv hf hl hlp hmf hown hmeas hfn hS ht
            go_wp2
            go_roundw
            case rel => exact ⟨xs, _, c, S, f, rfl, HINV.out, HF.out, by omega, HL4.out.later (below_new _ _)⟩
            case measure =>
              have h2 := fun o => supMeas_of (N := L.length) (HL4.out.later (below_new wr o)).mapf (some ⟨g, 0, none⟩) xs.length c
              rw [HM.out, h2]
              omega
          | false =>
            have hfn : f (tn : Int) = none := by
              cases e : f (tn : Int) with
              | none => rfl
              | some v =>
                obtain ⟨j, h1, h2⟩ := hf.only _ _ e
                obtain rfl : tn = j := by omega
                rw [hS] at h2; cases h2
            have hask := hmf.miss (T := 74) (E := 54) Try.underlying3 Try.underlying74 (zeroNode _) (k := (tn : Int)) (wf_i64 (by omega) (by omega)) hfn true
            obtain ⟨nd, hi⟩ : ∃ nd, L[tn]? = some nd := ⟨_, List.getElem?_eq_getElem htl⟩
            have hok := HWF.out.ok nd (List.mem_of_getElem? hi)
            have hcm := cntS_mark hS htl
            have hcm2 := cntS_le (L := L) (S := mark S tn)
            obtain ⟨p, hp⟩ : ∃ p, wr.heap.size = p := ⟨_, rfl⟩
            have hl4 := hlp.swap.alloc #[.int .u8 0, .int .u64 0, .slice none 0 0] 54
            rw [hp] at hl4
            have hvis := hinv.visit HWF.out
            rw [Int.toNat_natCast, argsOf_at hi] at hvis
            have HINV := Lib.hid hvis; have HF := Lib.hid hf; have HL4 := Lib.hid hl4.drop; have HM := Lib.hid hmeas; have HI := Lib.hid hi; have HOK := Lib.hid hok; have HCM := Lib.hid hcm; have HS := Lib.hid hS
            clear hinv hf hl hlp hl4 hmf hown hmeas hfn hS ht hvis hi hok hcm
            go_upto_region 16 with fail
            clear hp hask d0
            refine wp_abs (fun w5 => Lab w0 w5 (Thing.mapf 3 .i64 mb f (cntS L S) :: Thing.ints (.slice (some ⟨g, 0, none⟩) xs.length c) xs :: Thing.graph F I gb W room L :: ts)) HL4.out ?_
            clear HL4
            rintro w5 hl5
            have HL5 := Lib.hid hl5.rot3
            clear hl5
            go_wp2_with fail
            go_at_call 23
            refine (HL5.out.node_at tn nd HI.out).mono ?_
            rintro e w6 ⟨aa, am, ac, rfl, hl6⟩
            obtain ⟨q, hq⟩ : ∃ q, w6.heap.size = q := ⟨_, rfl⟩
            have hl7 := hl6.alloc #[.int .u8 nd.1, .int .u64 nd.2.1, .slice aa am ac] 54
            rw [hq] at hl7
            have HL7 := Lib.hid hl7.rot4
            clear hl6 hl7 HL5
            go_upto_region 17 with fail
            clear hq
            refine wp_abs (fun w7 => Lab w0 w7 (Thing.mapf 3 .i64 mb f (cntS L S) :: Thing.box q 54 #[.int .u8 nd.1, .int .u64 nd.2.1, .slice aa am ac] :: Thing.graph F I gb W room L :: Thing.ints (.slice aa am ac) nd.2.2 :: Thing.ints (.slice (some ⟨g, 0, none⟩) xs.length c) xs :: ts)) HL7.out ?_
            clear HL7
            rintro w7 hl7
            obtain ⟨x0, x1, x2⟩ := cells3 hl7.box2
            obtain ⟨hput, hl8⟩ := Lab.mput (T := 74) (E := 54) (k := (tn : Int)) hl7 Try.underlying3 Try.underlying74 (wf_i64 (by omega) (by omega)) (.agg #[.int .u8 nd.1, .int .u64 nd.2.1, .slice aa am ac])
            have HL8 := Lib.hid hl8
            clear hl7 hl8
            go_upto_region 18 with fail
            clear hput x0 x1 x2
            refine wp_abs (fun w8 => Lab w0 w8 (Thing.mapf 3 .i64 mb (fun j => if j = (tn : Int) then some (.agg #[.int .u8 nd.1, .int .u64 nd.2.1, .slice aa am ac]) else f j) (cntS L (mark S tn)) :: Thing.box q 54 #[.int .u8 nd.1, .int .u64 nd.2.1, .slice aa am ac] :: Thing.graph F I gb W room L :: Thing.ints (.slice aa am ac) nd.2.2 :: Thing.ints (.slice (some ⟨g, 0, none⟩) xs.length c) xs :: ts)) ?_ ?_
            · have hfn : f (tn : Int) = none := by
                cases e : f (tn : Int) with
                | none => rfl
                | some v =>
                  obtain ⟨j, h1, h2⟩ := HF.out.only _ _ e
                  obtain rfl : tn = j := by omega
                  rw [HS.out] at h2; cases h2
              have := HL8.out
              rw [hfn] at this
              rw [HCM.out]
              exact this
            clear HL8
            rintro w8 hl8
            obtain ⟨x0, x1, x2⟩ := cells3 hl8.box2
            have hsrc : SliceOf w8 .i64 (.slice aa am ac) nd.2.2 := OwnInts.slice hl8.fourth
            have hxa : xs.length + nd.2.2.length ≤ 1000000000 := by have := HOK.out.2.2; have := aryN_le nd.1; omega
            have HL9 := Lib.hid hl8.rot5
            clear hl8 x0 x1
            go_wp2_with (at_builtin; refine wpList_append_lab (.tmp 65) (.tmp 67) HL9.out hsrc rfl rfl rfl rfl hxa ?_; intro a9 c9 w9 hl9)
            have HL10 := Lib.hid (hl9.swap.subl (ts' := Thing.mapf 3 .i64 mb (fun j => if j = (tn : Int) then some (.agg #[.int .u8 nd.1, .int .u64 nd.2.1, .slice aa am ac]) else f j) (cntS L (mark S tn)) :: Thing.ints (.slice a9 (xs ++ nd.2.2).length c9) (xs ++ nd.2.2) :: Thing.graph F I gb W room L :: ts) (.cons_cons _ (.cons_cons _ (.cons _ (.cons_cons _ (.cons _ (List.Sublist.refl _)))))))
            clear hl9 HL9 hsrc x2
            go_roundw
            case rel => exact ⟨xs ++ nd.2.2, a9, c9, mark S tn, _, by rw [List.length_append], HINV.out, HF.out.put HI.out aa am ac, by rw [List.length_append, HCM.out]; have := HOK.out.2.2; have := aryN_le nd.1; omega, HL10.out⟩
            case measure =>
              have h2 := supMeas_of (N := L.length) HL10.out.mapf a9 (xs ++ nd.2.2).length c9
              rw [List.length_append] at h2
              rw [HM.out, h2, HCM.out]
              rw [HCM.out] at hcm2
              have := HOK.out.2.2
              have := aryN_le nd.1
              omega
end
end Go.Proofs.Ytofbadmjopefpaa
