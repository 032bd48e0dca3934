/- append at a step of a drawn region, among things. Law 13: Pairs. -/
import Derived.Test.YtcpgiadhmmmafaaEvalT
import Derived.Test.YtcpgiadhmmmafaaSubH
import Derived.Test.YtcpgiadhmmmafaaPairs
import Derived.Deep.DrawnRows
import Derived.Deep.RegionHeld3
namespace Go.Proofs.Ytcpgiadhmmmafaa
open Go.RowKit Go.Maps
set_option maxHeartbeats 1600000

section
variable {w0 wc : World} {ts : List Thing}
theorem box_slice {w : World} {b : Nat} {q : Int} {T : Nat} (h : w.heap[b]? = some (.cells #[.int .i64 q] T (0, 0))) (c : Nat) : SliceOf w .i64 (.slice (some ⟨b, 0, none⟩) 1 c) [q] :=
  ⟨_, _, _, rfl, rfl, fun i hi => by
    obtain rfl : i = 0 := by simp at hi; omega
    exact ⟨b, 0, rfl, by rw [cell_of_row w b 0 _ _ _ h]; rfl⟩⟩
/-- One number is appended to an own list, from a box: a list that is one longer; the box is let go. -/
theorem step_append_lab {ops : Array Oper} {o : Oper} {a : Act} {K : Act → World → Prop} {Q : Exit → Act → World → Prop} {E0 : Prop} {v : Value} {xs : List Int} {b : Nat} {q : Int} (s x : Operand)
    (h : Lab w0 wc (Thing.ints v xs :: Thing.box b 3 #[.int .i64 q] :: ts)) (hgd : o.guard = none) (ho : o.op = .call { callee := .builtin .append, args := #[s, x], argTypes := #[33, 33] })
    (hs : a.eval s = v) (hx : a.eval x = .slice (some ⟨b, 0, none⟩) 1 1) (hn : xs.length ≤ 999999999)
    (hK : ∀ a' c' w', Lab w0 w' (Thing.ints (.slice a' (xs.length + 1) c') (xs ++ [q]) :: ts) → K (a.put o.dst (.slice a' (xs.length + 1) c')) w') :
    if Region.wanted o (yielded ops a.tmps) = true then Oper.wp Try.prog o a wc K Q else E0 := by
  have hw : Region.wanted o (yielded ops a.tmps) = true := by simp [Region.wanted, hgd]
  rw [if_pos hw]
  have hsrc : SrcOf wc (.slice (some ⟨b, 0, none⟩) 1 1) 1 1 [.int .i64 q] := (box_slice h.box2 1).src
  have hown : wc.ownsRow 0 3 1 v xs.length (xs.map (Value.int .i64)) := h.ints
  have h1 : ∀ u ∈ [Value.int .i64 q], u.oneCell' = true := by simp [Value.oneCell']
  obtain ⟨v', w', hr, h2, h3⟩ := run_append_src (P := Try.prog) wc 0 33 o.type 3 1 8 (.int .i64 0) Try.underlying33 Try.infoI64 rfl (by decide) (by decide) v _ xs.length 1 _ [.int .i64 q] hown hsrc h1 (by omega) (Nat.zero_le _)
  have blk := append_block (P := Try.prog) (T := 33) (ty := o.type) (bytes := 8) (z := .int .i64 0) Try.underlying33 Try.infoI64 (by decide) hown hsrc h1 (by decide) (by omega) hr
  obtain ⟨a', c', rfl⟩ : ∃ a' c', v' = .slice a' (xs.length + 1) c' := by
    rcases h2.2 with ⟨_, h0⟩ | ⟨g, cap, cur, rfl, _⟩
    · omega
    · exact ⟨_, _, rfl⟩
  unfold Oper.wp execOp
  simp only [ho, resolve, invoke, builtin, Sem.run_bind, Sem.run_pure, Result.andThen_ok, List.map_toArray, List.map_cons, List.map_nil, hs, hx, hr]
  refine hK a' c' w' ?_
  have hr2 : Lab w0 wc (Thing.ints v xs :: ts) := h.swap.drop
  refine hr2.grown_ints (m := xs.length + 1) ?_ ⟨h3.os, h3.tape, h3.output, h3.size, fun b hb hn => h3.block b hb (fun e => hn (by simp [← e]))⟩ (fun b hb => blk b hb)
  unfold OwnInts
  rw [List.length_append, List.map_append]
  exact h2
end
end Go.Proofs.Ytcpgiadhmmmafaa
namespace Go.Proofs.Ytcpgiadhmmmafaa
open Go.RowKit Go.Maps
set_option maxHeartbeats 3200000

noncomputable def pairsRegion (id : Nat) : Code := (Try.f44.body.bind (regionIn id)).getD .skip
section
variable {w0 wr w' : World} {ts : List Thing} {F I : List Nat} {gb W room : Nat} {L : List PNode}
set_option maxRecDepth 100000 in
theorem pairs_region8 {u2 u3 u6 u9 u10 u11 u12 u13 u14 u15 u16 u17 u18 u19 u20 u21 u22 u23 u24 u25 u26 u27 u28 u29 u30 u31 u32 u33 u34 u35 u36 u37 u38 u39 u40 u41 u42 u43 u44 u45 u46 u47 u48 : Value} {Q : Exit → Act → World → Prop} {v1 v2 : Value} {vs us : List Int} {x y : Int} {b off n cap k : Nat} (h : Lab w0 wr (Thing.ints v1 vs :: Thing.ints v2 us :: Thing.graph F I gb W room L :: ts)) (hL : 0 < L.length) (hn1 : vs.length ≤ 999999999) (hn2 : us.length ≤ 999999999) (hk : k < n) (hc : w0.cell? ⟨b, off + k * 2 + 1, none⟩ = some (.int .i64 y))
    (hQ : ∀ v32 v33 v34 v35 v36 v37 v38 v39 v40 v41 v42 v43 v44 v45 v46 (a1 a2 : Option Addr) (c1 c2 : Nat) w3, Lab w0 w3 (Thing.ints (.slice a1 (vs.length + 1) c1) (vs ++ [x]) :: Thing.ints (.slice a2 (us.length + 1) c2) (us ++ [y % (L.length : Int)]) :: Thing.graph F I gb W room L :: ts) →
      Q .normal ⟨(List.toArray (.pointer (some ⟨gb, 0, none⟩) :: .slice (some ⟨b, off, none⟩) n cap :: u2 :: u3 :: .slice a1 (vs.length + 1) c1 :: .slice a2 (us.length + 1) c2 :: u6 :: .int .i64 k :: .int .i64 x :: u9 :: u10 :: u11 :: u12 :: u13 :: u14 :: u15 :: u16 :: u17 :: u18 :: u19 :: u20 :: u21 :: u22 :: u23 :: u24 :: u25 :: u26 :: u27 :: u28 :: u29 :: u30 :: u31 :: v32 :: v33 :: v34 :: v35 :: v36 :: v37 :: v38 :: v39 :: v40 :: v41 :: v42 :: v43 :: v44 :: v45 :: v46 :: u47 :: u48 :: [])), []⟩ w3) :
    Code.wp Try.prog (pairsRegion 8) Q ⟨(List.toArray (.pointer (some ⟨gb, 0, none⟩) :: .slice (some ⟨b, off, none⟩) n cap :: u2 :: u3 :: v1 :: v2 :: u6 :: .int .i64 k :: .int .i64 x :: u9 :: u10 :: u11 :: u12 :: u13 :: u14 :: u15 :: u16 :: u17 :: u18 :: u19 :: u20 :: u21 :: u22 :: u23 :: u24 :: u25 :: u26 :: u27 :: u28 :: u29 :: u30 :: u31 :: u32 :: u33 :: u34 :: u35 :: u36 :: u37 :: u38 :: u39 :: u40 :: u41 :: u42 :: u43 :: u44 :: u45 :: u46 :: u47 :: u48 :: [])), []⟩ wr := by
  have hll : L.length ≤ 1048576 := by have := h.rot3.gr.len; have := h.rot3.gr.r2; omega
  have k0 : (0 : Int) ≤ (k : Int) := by omega
  have kn : (k : Int) < (n : Int) := by omega
  have hmod := fun wx => mod_any y (L.length : Int) (by omega) (by omega) wx
  have HL := Lib.hid h; have HC := Lib.hid hc; have HN1 := Lib.hid hn1; have HN2 := Lib.hid hn2; have HQ := Lib.hid hQ; have HMOD := Lib.hid hmod
  clear h hc hn1 hn2 hQ hmod
  conv => arg 2; whnf
  go_region_held3 (fun w' => w'.cell? ⟨b, off + k * 2 + 1, none⟩ = some (.int .i64 y)) (first | exact cell_later HL.out.drew1.below HC.out | exact cell_later (HL.out.alloc _ _).drew1.below HC.out | exact cell_later ((HL.out.alloc _ _).alloc _ _).drew1.below HC.out | assumption | exact cell_later hp1.below HC.out | exact cell_later hp2.below HC.out | exact cell_later (hp1.alloc _ _).below HC.out | exact cell_later (hp2.alloc _ _).below HC.out | go_keep)
    (first
      | (go_at_call 24; first | (refine (len_any (HL.out.drew1.rot3.gr)).mono ?_; rintro e w ⟨rfl, rfl⟩) | (refine (len_any ((HL.out.alloc _ _).drew1.rot4.gr)).mono ?_; rintro e w ⟨rfl, rfl⟩) | (refine (len_any hp1.rot3.gr).mono ?_; rintro e w ⟨rfl, rfl⟩))
      | (go_at_call 18; refine (HMOD.out _).mono ?_; rintro e w ⟨rfl, rfl⟩)
      | (refine step_append_lab (.tmp 32) (.tmp 34) (HL.out.alloc #[.int .i64 x] 3).drew1.swap rfl rfl rfl rfl HN1.out ?_; intro a1 c1 w1 hp1)
      | (refine step_append_lab (.tmp 32) (.tmp 34) (((HL.out.alloc #[.int .i64 x] 3).alloc #[.int .i64 (y % (L.length : Int))] 3).drew1.rot3.perm (.cons _ (.swap _ _ _))) rfl rfl rfl rfl HN1.out ?_; intro a1 c1 w1 hp1)
      | (refine step_append_lab (.tmp 32) (.tmp 34) ((HL.out.alloc #[.int .i64 (y % (L.length : Int))] 3).alloc #[.int .i64 x] 3).drew1.rot3 rfl rfl rfl rfl HN1.out ?_; intro a1 c1 w1 hp1)
      | (refine step_append_lab (.tmp 32) (.tmp 34) (hp2.alloc #[.int .i64 x] 3).rot3 rfl rfl rfl rfl HN1.out ?_; intro a1 c1 w1 hp1)
      | (refine step_append_lab (.tmp 32) (.tmp 34) (hp2.rot3.perm (.cons _ (.swap _ _ _))) rfl rfl rfl rfl HN1.out ?_; intro a1 c1 w1 hp1)
      | (refine step_append_lab (.tmp 36) (.tmp 45) (hp1.alloc #[.int .i64 (y % (L.length : Int))] 3).rot3 rfl rfl rfl rfl HN2.out ?_; intro a2 c2 w2 hp2)
      | (refine step_append_lab (.tmp 36) (.tmp 45) ((HL.out.alloc #[.int .i64 x] 3).alloc #[.int .i64 (y % (L.length : Int))] 3).drew1.rot4 rfl rfl rfl rfl HN2.out ?_; intro a2 c2 w2 hp2)
      | (refine step_append_lab (.tmp 36) (.tmp 45) (((HL.out.alloc #[.int .i64 (y % (L.length : Int))] 3).alloc #[.int .i64 x] 3).drew1.rot4.perm (.cons _ (.swap _ _ _))) rfl rfl rfl rfl HN2.out ?_; intro a2 c2 w2 hp2)
      | (refine step_append_lab (.tmp 36) (.tmp 45) (HL.out.alloc #[.int .i64 (y % (L.length : Int))] 3).drew1.rot3 rfl rfl rfl rfl HN2.out ?_; intro a2 c2 w2 hp2)
      | (refine step_append_lab (.tmp 36) (.tmp 45) (hp1.rot3.perm (.cons _ (.swap _ _ _))) rfl rfl rfl rfl HN2.out ?_; intro a2 c2 w2 hp2))
  all_goals first | exact HQ.out _ _ _ _ _ _ _ _ _ _ _ _ _ _ _ _ _ _ _ _ hp1 | exact HQ.out _ _ _ _ _ _ _ _ _ _ _ _ _ _ _ _ _ _ _ _ hp2.swap
theorem nodup_bound : ∀ (n : Nat) (vs : List Int), vs.Nodup → (∀ v ∈ vs, (0 : Int) ≤ v ∧ v < (n : Int)) → vs.length ≤ n
  | 0, vs, _, h => by
    cases vs with
    | nil => simp
    | cons v vs => have := h v (by simp); omega
  | n + 1, vs, hn, h => by
    by_cases hm : (n : Int) ∈ vs
    · have := nodup_bound n (vs.erase (n : Int)) (hn.erase _) (fun v hv => by
        have h1 := (hn.mem_erase_iff).1 hv
        have h2 := h v h1.2
        have h3 := h1.1
        omega)
      rw [List.length_erase_of_mem hm] at this
      omega
    · have := nodup_bound n vs hn (fun v hv => by
        have h2 := h v hv
        have h3 : v ≠ (n : Int) := fun e => hm (e ▸ hv)
        omega)
      omega
/-- Variables from 0 to 5, each once, and as many terms. -/
structure PairsOk (L : List PNode) (vs us : List Int) : Prop where
  len : vs.length = us.length
  nodup : vs.Nodup
  vars : ∀ v ∈ vs, (0 : Int) ≤ v ∧ v < 6
  terms : ∀ u ∈ us, (0 : Int) ≤ u ∧ u < (L.length : Int)
set_option maxRecDepth 100000 in
theorem Lab.pairs (h : Lab w0 wr (Thing.graph F I gb W room L :: ts)) (hL : 0 < L.length) (v2 : Value) (ps : List (Int × Int)) (hv : PairsOf w0 v2 ps) (hn : ps.length ≤ 9223372036854775807) :
    Calls Try.prog 44 #[.pointer (some ⟨gb, 0, none⟩), v2] wr fun e w' => ∃ a1 a2 c1 c2 vs us, e = .returned (.tuple #[.slice a1 vs.length c1, .slice a2 us.length c2]) ∧ PairsOk L vs us ∧ Lab w0 w' (Thing.ints (.slice a1 vs.length c1) vs :: Thing.ints (.slice a2 us.length c2) us :: Thing.graph F I gb W room L :: ts) := by
  have hll : L.length ≤ 1048576 := by have := h.gr.len; have := h.gr.r2; omega
  obtain ⟨a, n, cap, rfl, hl2, hcell⟩ := hv
  rw [hl2] at hn
  have hL' : (0 : Int) < (L.length : Int) := by omega
  have hmm := @run_makeMap Try.prog
  obtain ⟨mS, hmS⟩ : ∃ mS, wr.heap.size = mS := ⟨_, rfl⟩
  have hl1 := ((h.nil_ints.nil_ints).new_map 3 .i64).mapf_congr (g := setF fun j => decide (j ∈ ([] : List Int))) (fun k => by unfold setF; simp)
  rw [hmS] at hl1
  have HL := Lib.hid hl1; have HC := Lib.hid hcell
  clear h hl1 hcell hl2
  go_enter Try.func44, Try.ntmps44
  go_upto_region 2 with fail
  clear hmS hmm
  refine wp_abs (fun w1 => Lab w0 w1 (Thing.mapf 3 .i64 mS (setF fun j => decide (j ∈ ([] : List Int))) 0 :: Thing.ints (.slice none 0 0) [] :: Thing.ints (.slice none 0 0) [] :: Thing.graph F I gb W room L :: ts)) HL.out ?_
  clear HL
  rintro w1 hl
  have HL := Lib.hid hl
  clear hl
  go_wp2
  go_loopw [7, 4, 5] (fun i v1 v2 wx => ∃ k : Nat, k ≤ n ∧ i = .int .i64 k ∧ ∃ a1 a2 c1 c2 vs us c, v1 = .slice a1 vs.length c1 ∧ v2 = .slice a2 us.length c2 ∧ PairsOk L vs us ∧ Lab w0 wx (Thing.mapf 3 .i64 mS (setF fun j => decide (j ∈ vs)) c :: Thing.ints (.slice a1 vs.length c1) vs :: Thing.ints (.slice a2 us.length c2) us :: Thing.graph F I gb W room L :: ts)) (fun i _ _ _ => n - (intOf i).toNat)
  case atStart => exact ⟨0, by omega, rfl, none, none, 0, 0, [], [], 0, rfl, rfl, ⟨rfl, by simp, by simp, by simp⟩, HL.out⟩
  case round =>
    clear HL
    obtain ⟨k, hk, rfl, a1, a2, c1, c2, vs, us, c, rfl, rfl, hok, hl⟩ := hrel
    have HLEN := Lib.hid (len_any hl.rot4.gr)
    by_cases hlt : k < n
    · obtain ⟨b, off, x, rfl, hx, cx, cy⟩ := HC.out k hlt
      have hlt' : (k : Int) < (n : Int) := by omega
      have hmod := fun wx => mod_any x.1 6 (by omega) (by omega) wx
      have dx := cell_later hl.below cx
      have hv0 := Int.emod_nonneg x.1 (show (6 : Int) ≠ 0 by omega)
      have hv1 := Int.emod_lt_of_pos x.1 (show (0 : Int) < 6 by omega)
      generalize x.1 % (6 : Int) = v at *
      have hask := MapF.ask (T := 127) (E := 4) hl.mapf Try.underlying3 Try.underlying127 (zeroBool _) (wf_i64 (k := v) (by omega) (by omega))
      by_cases hseen : v ∈ vs
      · rw [decide_eq_true hseen] at hask
        have HL := Lib.hid hl; have HOK := Lib.hid hok; have HMOD := Lib.hid hmod
        clear hl hok hmod hx cx cy
        go_wp2_with (first | (go_at_call 24; refine HLEN.out.mono ?_; rintro e w ⟨rfl, rfl⟩) | (go_at_call 18; refine (HMOD.out _).mono ?_; rintro e w ⟨rfl, rfl⟩))
        go_roundw
        case rel => exact ⟨k + 1, by omega, by go_num, a1, a2, c1, c2, vs, us, c, rfl, rfl, HOK.out, HL.out⟩
        case measure => simp [intOf]; omega
      · rw [decide_eq_false hseen] at hask
        obtain ⟨hput, c', hl2⟩ := Lab.sput (T := 127) (E := 4) (k := v) ⟨c, hl⟩ Try.underlying3 Try.underlying127 (wf_i64 (k := v) (by omega) (by omega))
        have hb6 : vs.length ≤ 6 := nodup_bound 6 vs hok.nodup (fun v hv => hok.vars v hv)
        have HL := Lib.hid (hl2.perm (List.perm_middle (l₁ := [_, _, _])).symm); have HOK := Lib.hid hok; have HMOD := Lib.hid hmod; have HS := Lib.hid hseen; have CY := Lib.hid cy
        clear hl hl2 hok hmod hx cx cy hseen
        go_upto_region 8 with (first | (go_at_call 24; refine HLEN.out.mono ?_; rintro e w ⟨rfl, rfl⟩) | (go_at_call 18; refine (HMOD.out _).mono ?_; rintro e w ⟨rfl, rfl⟩))
        refine pairs_region8 HL.out hL (by omega) (by have := HOK.out.len; omega) hlt CY.out ?_
        intro _ _ _ _ _ _ _ _ _ _ _ _ _ _ _ a1' a2' c1' c2' w3 hl3
        have HL3 := Lib.hid (hl3.perm (List.perm_middle (l₁ := [_, _, _])))
        clear hl3 HL hput hask dx
        go_wp2
        go_roundw
        case rel =>
          have hy0 := Int.emod_nonneg x.2 (show (L.length : Int) ≠ 0 by omega)
          have hy1 := Int.emod_lt_of_pos x.2 hL'
          refine ⟨k + 1, by omega, by go_num, a1', a2', c1', c2', vs ++ [v], us ++ [x.2 % (L.length : Int)], c', by rw [List.length_append]; rfl, by rw [List.length_append]; rfl, ⟨by rw [List.length_append, List.length_append, HOK.out.len]; rfl, ?_, ?_, ?_⟩, ?_⟩
          · exact List.nodup_append.2 ⟨HOK.out.nodup, by simp, fun a ha b hb => by rw [List.mem_singleton.1 hb]; intro e; exact HS.out (e ▸ ha)⟩
          · intro u hu
            rcases List.mem_append.1 hu with h1 | h1
            · exact HOK.out.vars u h1
            · rw [List.mem_singleton.1 h1]; exact ⟨hv0, hv1⟩
          · intro u hu
            rcases List.mem_append.1 hu with h1 | h1
            · exact HOK.out.terms u h1
            · rw [List.mem_singleton.1 h1]; exact ⟨hy0, hy1⟩
          · rw [List.length_append, List.length_append]
            exact HL3.out.mapf_congr (fun j => by
              have : (if j = v then true else decide (j ∈ vs)) = decide (j ∈ vs ++ [v]) := by
                by_cases e : j = v
                · simp [e]
                · simp [e]
              exact setF_congr (S := fun j => if j = v then true else decide (j ∈ vs)) (S' := fun j => decide (j ∈ vs ++ [v])) this)
        case measure => simp [intOf]; omega
    · have hlt' : ¬ (k : Int) < (n : Int) := by omega
      have HL := Lib.hid hl; have HOK := Lib.hid hok
      clear hl hok
      go_wp2_with (go_at_call 24; refine HLEN.out.mono ?_; rintro e w ⟨rfl, rfl⟩)
      go_ret2
      exact ⟨a1, a2, c1, c2, vs, us, rfl, HOK.out, HL.out.drop⟩
end
end Go.Proofs.Ytcpgiadhmmmafaa
