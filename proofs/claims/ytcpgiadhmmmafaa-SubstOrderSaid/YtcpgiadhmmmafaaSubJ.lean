/- SubstValues. SubstValues: the walk. -/
import Derived.Test.YtcpgiadhmmmafaaSubI
import Derived.Test.YtcpgiadhmmmafaaSimpT
import Derived.Laws.CopyOwn
import Derived.Laws.OwnMore
namespace Go.Proofs.Ytcpgiadhmmmafaa
open Go.RowKit Go.Maps
set_option maxHeartbeats 3200000

section
variable {w0 wr w' : World} {ts : List Thing} {F I : List Nat} {gb W room : Nat} {L : List PNode}
/-- A cell of an own row is written. -/
theorem Lab.row_set {E g n cap : Nat} {cells : List Value} (h : Lab w0 wr (Thing.row E 1 (.slice (some ⟨g, 0, none⟩) n cap) n cells :: ts)) (j : Nat) (u : Value) : Lab w0 (wr.setCell ⟨g, j, none⟩ u) (Thing.row E 1 (.slice (some ⟨g, 0, none⟩) n cap) n (cells.set j u) :: ts) := by
  have hs := World.ownsRow.stored h.head j u
  refine h.turn (s' := Thing.row E 1 (.slice (some ⟨g, 0, none⟩) n cap) n (cells.set j u)) ⟨rfl, rfl, rfl, by rw [World.size_setCell]; exact Nat.le_refl _, fun k hk hn => heap_setCell_other _ _ _ _ (by simpa [Thing.row, Value.ownBlock] using hn)⟩ hs.1 (fun k hk => .inl hk) (fun k hk => .inl hk) (fun k hk => ?_)
  rw [World.size_setCell]
  exact h.high (Thing.row E 1 (.slice (some ⟨g, 0, none⟩) n cap) n cells) (by simp) k hk
theorem Lab.row_cell {E g n cap : Nat} {cells : List Value} (h : Lab w0 wr (Thing.row E 1 (.slice (some ⟨g, 0, none⟩) n cap) n cells :: ts)) {j : Nat} (hj : j < n) : wr.cell? ⟨g, j, none⟩ = cells[j]? ∧ wr.frozen? ⟨g, j, none⟩ = false :=
  ⟨World.ownsRow.cellAt h.head j (by omega), World.ownsRow.frozenAt h.head j⟩
/-- A list of numbers of one's own. -/
def Thing.nums13 (v : Value) (xs : List Int) : Thing := Thing.row 22 1 v xs.length (xs.map (Value.int .u64))
theorem Lab.nums13_slice {v : Value} {xs : List Int} (h : (Thing.nums13 v xs).holds wr) : SliceOf wr .u64 v xs := sliceOf_owns h
theorem Lab.new_nums13 {v : Value} {xs : List Int} (h : Lab w0 wr ts) (hb : Below wr.heap.size wr w') (hv : OwnInts w' wr.heap.size 22 .u64 v xs) : Lab w0 w' (Thing.nums13 v xs :: ts) := h.new_row hb hv
theorem take_src {w : World} {k : IntKind} {a : Option Addr} {n c m : Nat} {xs : List Int} (h : SliceOf w k (.slice a n c) xs) (h0 : 0 < ((xs.take m).map (Value.int k)).length) : ∃ ad, a = some ad ∧ ∀ j v, ((xs.take m).map (Value.int k))[j]? = some v → w.cell? (ad.add j) = some v := by
  obtain ⟨a', c', e, hl, hs⟩ := h.src
  simp only [Value.slice.injEq] at e
  obtain ⟨rfl, rfl, rfl⟩ := e
  have h1 : 0 < xs.length := by
    rw [List.length_map, List.length_take] at h0
    omega
  obtain ⟨ad, rfl, hc⟩ := hs h1
  refine ⟨ad, rfl, fun j v hj => hc j v ?_⟩
  rw [List.getElem?_map, List.getElem?_take] at hj
  split at hj
  · rw [List.getElem?_map]; exact hj
  · cases hj
/-- Six numbers: those of a list, and zeros. -/
def six (vals : List Int) : List Int := splice (List.replicate 6 0) 0 (vals.take 6)
theorem six_len (vals : List Int) : (six vals).length = 6 := by
  unfold six
  rw [length_splice _ _ _ (by rw [List.length_take, List.length_replicate]; omega), List.length_replicate]
theorem six_u64 {vals : List Int} (h : U64s vals) : U64s (six vals) := by
  intro x hx
  unfold six splice at hx
  rw [List.take_zero, List.nil_append] at hx
  rcases List.mem_append.1 hx with h1 | h1
  · exact h x (List.mem_of_mem_take h1)
  · have := List.eq_of_mem_replicate (List.mem_of_mem_drop h1)
    subst this; omega
theorem six_cells (vals : List Int) : splice (List.replicate 6 (Value.int .u64 0)) 0 ((vals.take 6).map (Value.int .u64)) = (six vals).map (Value.int .u64) := by
  unfold six splice
  simp
theorem own_some {w : World} {B E : Nat} {k : IntKind} {v : Value} {xs : List Int} (h : OwnInts w B E k v xs) (h0 : xs ≠ []) : ∃ g cap, v = .slice (some ⟨g, 0, none⟩) xs.length cap := by
  rcases h.2 with ⟨-, h1⟩ | ⟨g, cap, cur, rfl, -⟩
  · exact absurd (List.length_eq_zero_iff.1 h1) h0
  · exact ⟨g, cap, rfl⟩
/-- copy to six zeros. -/
theorem copy_six {w0 w : World} {B ib n c : Nat} {a : Option Addr} {vals : List Int} (hg : w.heap[ib]? = some (.cells (madeCells #[.int .u64 0] 6) 22 (0, 0))) (hs : SliceOf w .u64 (.slice a n c) vals) (hb : Below B w0 w) (hB : B ≤ ib) :
    ∃ w' k, (Builtin.copy_ #[88, 88] 3 #[.slice (some ⟨ib, 0, none⟩) 6 6, .slice a n c]).run Try.prog w = .ok (.int .i64 k) w' ∧ w'.heap[ib]? = some (.cells ((six vals).map (Value.int .u64)).toArray 22 (0, 0)) ∧ Below B w0 w' := by
  have hsz : (Try.prog.info? 22).map (·.size) = some 1 := by kernel_rfl
  have hn : vals.length = n := by obtain ⟨a', n', c', e, hl, -⟩ := hs.parts; simp only [Value.slice.injEq] at e; omega
  have hcl : ((vals.take 6).map (Value.int .u64)).length = Nat.min n 6 := by rw [List.length_map, List.length_take, hn]; exact Nat.min_comm _ _
  have hc1 : ∀ v ∈ (vals.take 6).map (Value.int .u64), v.oneCell' = true := fun v hv => by
    obtain ⟨y, -, rfl⟩ := List.mem_map.1 hv
    rfl
  by_cases h0 : ((vals.take 6).map (Value.int .u64)).length = 0
  · refine ⟨w, 0, run_copy_none (P := Try.prog) w _ _ _ 22 _ _ _ _ _ _ Try.underlying88 hsz (by omega), ?_, hb⟩
    have : vals.take 6 = [] := List.map_eq_nil_iff.1 (List.length_eq_zero_iff.1 h0)
    have e : (madeCells #[Value.int .u64 0] 6) = (List.replicate 6 (Value.int .u64 0)).toArray := by apply Array.ext'; rw [toList_madeCells_one]
    rw [hg, e, ← six_cells, this]
    simp [splice]
  · obtain ⟨ad, rfl, hsrc⟩ := take_src (m := 6) hs (by omega)
    refine ⟨_, _, run_copy_row (P := Try.prog) w _ _ _ 22 ib 0 6 6 ad n c (madeCells #[.int .u64 0] 6) 22 _ Try.underlying88 hsz hg hcl hsrc (by rw [Nat.zero_add, hcl, show (madeCells #[Value.int .u64 0] 6).size = 6 from by simp [madeCells]]; exact Nat.min_le_right n 6) hc1, ?_, below_setRow hb hB _⟩
    have e : (madeCells #[Value.int .u64 0] 6).toList.take 0 ++ (vals.take 6).map (Value.int .u64) ++ (madeCells #[Value.int .u64 0] 6).toList.drop (0 + ((vals.take 6).map (Value.int .u64)).length) = splice (List.replicate 6 (Value.int .u64 0)) 0 ((vals.take 6).map (Value.int .u64)) := by
      rw [toList_madeCells_one]
      unfold splice
      rw [List.append_assoc]
    rw [← six_cells, ← e]
    exact setRow_heap w ib _ _ _ _ hg
end
/-- What Subst answers on pairs that are right. -/
theorem subst_pairs {W room : Nat} {L : List PNode} {vs us : List Int} (hW : W ≤ 64) (hw : WFL L) (hg : GoodL W L) (hok : PairsOk L vs us) {t : Nat} (ht : t < L.length) (hr : L.length + (t + 1) ≤ room) :
    SubOk L (vs.zip us) ∧ ∃ L' s, substR W room L t (vs.zip us) = (L', s, 0) ∧ subst2R W room L t vs us = (L', s, 0) ∧ WFL L' ∧ GoodL W L' ∧ L <+: L' ∧ L'.length ≤ L.length + (t + 1) ∧ s < L'.length := by
  have h1 : SubOk L (vs.zip us) := by
    refine ⟨?_, fun p hp => hok.terms p.2 (List.of_mem_zip hp).2⟩
    rw [List.map_fst_zip (by rw [hok.len]; exact Nat.le_refl _)]
    exact hok.nodup
  obtain ⟨L', s, h2, h3, h4, h5, h6, h7⟩ := substR_ok hW hw hg ht h1 hr
  exact ⟨h1, L', s, h2, by unfold subst2R; rw [if_pos (by omega), if_pos hok.len, h2], h3, h4, h5, h6, h7⟩
theorem PairsOk.wf {L : List PNode} {vs us : List Int} (h : PairsOk L vs us) : ∀ v ∈ vs, (Lit.int .i64 v).wf = true := fun v hv => wf_i64 (by have := h.vars v hv; omega) (by have := h.vars v hv; omega)
theorem PairsOk.small {L : List PNode} {vs us : List Int} (h : PairsOk L vs us) : vs.length ≤ 6 := nodup_bound 6 vs h.nodup (fun v hv => h.vars v hv)
/-- The values behind the first k pairs. -/
def outerK (inner vals : List Int) : Nat → List Int → List Int
  | 0, _ => inner
  | k + 1, vs => (outerK inner vals k vs).set (vs.getD k 0).toNat (vals.getD k 0)
theorem outerK_len (inner vals vs : List Int) : ∀ k, (outerK inner vals k vs).length = inner.length
  | 0 => rfl
  | k + 1 => by show (List.set _ _ _).length = _; rw [List.length_set, outerK_len inner vals vs k]
theorem outerK_u64 {inner vals vs : List Int} (h : U64s inner) (hv : U64s vals) : ∀ k, U64s (outerK inner vals k vs)
  | 0 => h
  | k + 1 => fun x hx => by
    rcases List.mem_or_eq_of_mem_set hx with h1 | rfl
    · exact outerK_u64 h hv k x h1
    · rw [List.getD_eq_getElem?_getD]
      cases e : vals[k]? with
      | none => simp
      | some q => exact hv q (List.mem_of_getElem? e)
theorem outerK_no {inner vals vs : List Int} {j : Nat} : ∀ k, k ≤ vs.length → (∀ v ∈ vs, 0 ≤ v) → (j : Int) ∉ vs.take k → (outerK inner vals k vs).getD j 0 = inner.getD j 0
  | 0, _, _, _ => rfl
  | k + 1, hk, hp, h => by
    have hv : vs[k]? = some (vs.getD k 0) := by rw [List.getD_eq_getElem?_getD, List.getElem?_eq_getElem (by omega)]; rfl
    rw [List.take_add_one, hv, List.mem_append, not_or] at h
    show (List.set _ _ _).getD j 0 = _
    have hne : (vs.getD k 0).toNat ≠ j := fun e => h.2 (by
      have := hp _ (List.mem_of_getElem? hv)
      simp only [Option.toList_some, List.mem_singleton]
      omega)
    rw [List.getD_eq_getElem?_getD, List.getElem?_set_ne hne, ← List.getD_eq_getElem?_getD]
    exact outerK_no k (by omega) hp h.1
theorem outerK_at {inner vals vs : List Int} {i j : Nat} (hn : vs.Nodup) (hp : ∀ v ∈ vs, 0 ≤ v) (hj : j < inner.length) (hi : vs[i]? = some (j : Int)) : ∀ k, k ≤ vs.length → i < k → (outerK inner vals k vs).getD j 0 = vals.getD i 0
  | 0, _, h => by omega
  | k + 1, hk, h => by
    have hv : vs[k]? = some (vs.getD k 0) := by rw [List.getD_eq_getElem?_getD, List.getElem?_eq_getElem (by omega)]; rfl
    show (List.set _ _ _).getD j 0 = _
    by_cases e : i = k
    · subst e
      have : vs.getD i 0 = (j : Int) := by rw [hi] at hv; exact (Option.some.inj hv).symm
      rw [this, Int.toNat_natCast, List.getD_eq_getElem?_getD, List.getElem?_set_self (by rw [outerK_len]; exact hj)]
      rfl
    · have hne : (vs.getD k 0).toNat ≠ j := fun e2 => by
        have h0 := hp _ (List.mem_of_getElem? hv)
        have h1 : vs.getD k 0 = (j : Int) := by omega
        rw [h1] at hv
        have := (List.getElem?_inj (by omega) hn).1 (hi.trans hv.symm)
        exact e this
      rw [List.getD_eq_getElem?_getD, List.getElem?_set_ne hne, ← List.getD_eq_getElem?_getD]
      exact outerK_at hn hp hj hi k (by omega) (by omega)
/-- The stage's theorem, in plain. -/
theorem subst_values {W room : Nat} {L L' : List PNode} {vs us inner : List Int} {t s : Nat} (h1 : 1 ≤ W) (hW : W ≤ 64) (hw : WFL L) (hg : GoodL W L) (hok : PairsOk L vs us) (ht : t < L.length) (h6 : inner.length = 6) (hR : substR W room L t (vs.zip us) = (L', s, 0)) :
    val W inner L' s = val W (outerK inner (us.map fun u => val W inner L u.toNat) vs.length vs) L t := by
  have hso : SubOk L (vs.zip us) := by
    refine ⟨?_, fun p hp => hok.terms p.2 (List.of_mem_zip hp).2⟩
    rw [List.map_fst_zip (by rw [hok.len]; exact Nat.le_refl _)]
    exact hok.nodup
  have hp : ∀ v ∈ vs, (0 : Int) ≤ v := fun v hv => (hok.vars v hv).1
  refine substR_val h1 hW hw hg ht hso hR fun i v hi => ?_
  have hol := outerK_len inner (us.map fun u => val W inner L u.toNat) vs vs.length
  rw [val_at hw (vals := outerK _ _ _ _) hi]
  unfold subLf
  rw [if_pos rfl]
  show val W inner L ((subOf (vs.zip us) v).getD (i : Int)).toNat = _
  cases hs : subOf (vs.zip us) v with
  | some u =>
    have hm := subOf_mem hs
    obtain ⟨k, hk⟩ := List.mem_iff_getElem?.1 hm
    obtain ⟨k1, k2⟩ := List.getElem?_zip_eq_some.1 hk
    have hv6 := hok.vars _ (List.mem_of_getElem? k1)
    have hat := outerK_at (vals := us.map fun u => val W inner L u.toNat) hok.nodup hp (show v < inner.length by omega) k1 vs.length (Nat.le_refl _) (List.getElem?_eq_some_iff.1 k1).1
    have hval : (us.map fun u => val W inner L u.toNat).getD k 0 = val W inner L u.toNat := by rw [List.getD_eq_getElem?_getD, List.getElem?_map, k2]; rfl
    rw [hval] at hat
    rw [valN_var rfl (by show v < _; omega)]
    show val W inner L u.toNat = ((((outerK inner (us.map fun u => val W inner L u.toNat) vs.length vs).getD v 0).toNat % 2 ^ W : Nat) : Int)
    rw [hat]
    have hb := val_word h1 hW inner hw hg u.toNat
    rw [Nat.mod_eq_of_lt (by omega), Int.toNat_of_nonneg hb.1]
  | none =>
    have hno := subOf_none.1 hs
    have hnv : (v : Int) ∉ vs := fun hm => by
      obtain ⟨k, hk⟩ := List.mem_iff_getElem?.1 hm
      have hlt := (List.getElem?_eq_some_iff.1 hk).1
      obtain ⟨u, hu⟩ : ∃ u, us[k]? = some u := ⟨_, List.getElem?_eq_getElem (by rw [← hok.len]; exact hlt)⟩
      exact hno u (List.mem_of_getElem? (List.getElem?_zip_eq_some.2 ⟨hk, hu⟩))
    have hat := outerK_no (inner := inner) (vals := us.map fun u => val W inner L u.toNat) (j := v) vs.length (Nat.le_refl _) hp (by rw [List.take_length]; exact hnv)
    show val W inner L (i : Int).toNat = _
    rw [Int.toNat_natCast, val_at hw (vals := inner) hi]
    by_cases h6 : v < inner.length
    · rw [valN_var rfl h6, valN_var rfl (by show v < _; omega)]
      show (((inner.getD v 0).toNat % 2 ^ W : Nat) : Int) = ((((outerK inner (us.map fun u => val W inner L u.toNat) vs.length vs).getD v 0).toNat % 2 ^ W : Nat) : Int)
      rw [hat]
    · rw [valN_no rfl h6, valN_no rfl (by show ¬ v < _; omega)]
end Go.Proofs.Ytcpgiadhmmmafaa
namespace Go.Proofs.Ytcpgiadhmmmafaa
open Go.RowKit Go.Maps
set_option maxHeartbeats 3200000

set_option maxRecDepth 100000 in
theorem substValues_walk {w : World} (Wi ti : Int) (v v3 v4 : Value) (qs : List PAsk) (hv : AsksOf w v qs) (hq : qs.length ≤ 9223372036854775807) (hcq : ∀ a n c, v = .slice a n c → n ≤ c) (ps : List (Int × Int)) (hv3 : PairsOf w v3 ps) (hn3 : ps.length ≤ 9223372036854775807) (vals : List Int) (hv4 : SliceOf w .u64 v4 vals) (hvu : U64s vals) (hn4 : vals.length ≤ 9223372036854775807) :
    Calls Try.prog 15 #[.int .i64 Wi, v, .int .i64 ti, v3, v4] w fun e w' => e = .returned (.bool true) ∧ Below w.heap.size w w' := by
  obtain ⟨a3, m3, c3, rfl, hl3, hcell3⟩ := hv3
  obtain ⟨a4, m4, c4, rfl, hl4, hcell4⟩ := hv4.parts
  obtain ⟨a, cap, rfl⟩ := hv.parts
  have hcap := hcq _ _ _ rfl
  obtain ⟨n, hn⟩ : ∃ n, qs.length = n := ⟨_, rfl⟩
  rw [hn] at hv hq hcap ⊢
  have hfill := fill_some Wi a n cap qs hv hq
  obtain ⟨W, hW⟩ : ∃ W, (Wi % 64).toNat + 1 = W := ⟨_, rfl⟩
  rw [hW] at hfill
  have hW1 : 1 ≤ W := by omega
  have hW2 : W ≤ 64 := by omega
  have hm4 : m4 ≤ 9223372036854775807 := by omega
  have HF := Lib.hid hfill; have HP := Lib.hid (show PairsOf w (.slice a3 m3 c3) ps from ⟨_, _, _, rfl, hl3, hcell3⟩); have HN3 := Lib.hid hn3; have HV4 := Lib.hid hv4; have HVU := Lib.hid hvu; have HN4 := Lib.hid (And.intro hn4 hl4)
  clear hv hcq hfill hW hn hcell3 hl3 hn3 hcell4 hv4 hvu hn4 hl4
  go_enter Try.func15, Try.ntmps15
  go_upto_region 1 with fail
  go_cut [11, 12] (fun g t wx => ∃ gb F I a' m c L, L.length ≤ 60 ∧ GoodL W L ∧ g = .pointer (some ⟨gb, 0, none⟩) ∧ t = .slice a' m c ∧ Lab w wx [Thing.graph F I gb W 1048576 L])
  case first =>
    by_cases h100 : (60 : Int) < (n : Int)
    · have HF1 := Lib.hid (HF.out 60 (by omega))
      go_wp2_with fail
      go_at_call 23
      refine HF1.out.mono ?_
      rintro e w1 ⟨gb, F, I, a', m, c, L, -, hL, hG, -, rfl, hlab⟩
      go_wp2
      go_meet
      exact ⟨gb, F, I, a', m, c, L, hL, hG, rfl, rfl, hlab⟩
    · have HF1 := Lib.hid (HF.out n (by omega))
      go_wp2_with fail
      go_at_call 23
      refine HF1.out.mono ?_
      rintro e w1 ⟨gb, F, I, a', m, c, L, -, hL, hG, -, rfl, hlab⟩
      go_wp2
      go_meet
      exact ⟨gb, F, I, a', m, c, L, by omega, hG, rfl, rfl, hlab⟩
  case rest =>
    obtain ⟨gb, F, I, a', m, c, L, hL, hG, rfl, rfl, hlab⟩ := hcut
    have HAW := Lib.hid hlab.awake13
    have HLEN := Lib.hid (len_any hlab.gr)
    have hwf := hlab.gr.wf
    have HL0 := Lib.hid hlab; have HG := Lib.hid hG; have HWF := Lib.hid hwf
    clear hlab hG hwf HF
    by_cases hL0 : L.length = 0
    · have q0 : ((L.length : Int) == 0) = true := by rw [beq_iff_eq]; omega
      go_wp2_with (first | (go_at_call 24; refine HLEN.out.mono ?_; rintro e w2 ⟨rfl, rfl⟩) | (go_at_call 41; refine HAW.out.mono ?_; rintro e w2 ⟨rfl, hb⟩))
      go_ret
      exact ⟨rfl, hb⟩
    · have q0 : ((L.length : Int) == 0) = false := by rw [beq_eq_false_iff_ne]; omega
      have hmod := fun wx => mod_any ti (L.length : Int) (by omega) (by omega) wx
      have ht0 := Int.emod_nonneg ti (show (L.length : Int) ≠ 0 by omega)
      have ht1 := Int.emod_lt_of_pos ti (show (0 : Int) < (L.length : Int) by omega)
      obtain ⟨t, ht⟩ := Int.eq_ofNat_of_zero_le ht0
      rw [ht] at ht1 hmod
      have htl : t < L.length := by omega
      have HMOD := Lib.hid hmod
      clear ht ht0 ht1 hmod HAW
      go_upto_region 7 with (first | (go_at_call 24; refine HLEN.out.mono ?_; rintro e w2 ⟨rfl, rfl⟩) | (go_at_call 18; refine (HMOD.out _).mono ?_; rintro e w2 ⟨rfl, rfl⟩))
      go_wp2_with fail
      go_at_call 44
      refine (HL0.out.pairs (by omega) _ ps HP.out HN3.out).mono ?_
      rintro e w3 ⟨a1, a2, c1, c2, vs, us, rfl, hok, hl⟩
      have HL3 := Lib.hid hl; have HOK := Lib.hid hok
      clear hl hok HMOD HLEN HL0
      have hmk : ∀ w, (Instr.makeSlice 88 (.int .i64 6) (.int .i64 6)).run Try.prog w = .ok (.slice (some ⟨w.heap.size, 0, none⟩) 6 6) (w.alloc (.cells (madeCells #[.int .u64 0] 6) 22)) := run_make_row' (P := Try.prog) 88 22 (.int .u64 0) 8 Try.underlying88 Try.infoU64 rfl .i64 .i64 6 (by omega) (by omega)
      obtain ⟨ib, hib⟩ : ∃ ib, w3.heap.size = ib := ⟨_, rfl⟩
      have hl4 := (Lab.nil (Below.refl w3.heap.size w3)).alloc (madeCells #[.int .u64 0] 6) 22
      rw [hib] at hl4
      have HL4 := Lib.hid hl4
      clear hl4
      go_upto_region 9 with fail
      clear hmk
      have hib2 : w3.heap.size ≤ ib := by omega
      clear hib
      refine wp_abs (fun w4 => Lab w3 w4 [Thing.box ib 22 (madeCells #[.int .u64 0] 6)]) HL4.out ?_
      clear HL4
      rintro w4 hl4
      obtain ⟨w5, kc, hcopy, hg5, hb5⟩ := copy_six hl4.box1 ((HV4.out.below HL3.out.below).below hl4.below) hl4.below hib2
      have hl5 : Lab w w5 (Thing.nums13 (.slice (some ⟨ib, 0, none⟩) 6 6) (six vals) :: Thing.ints (.slice a1 vs.length c1) vs :: Thing.ints (.slice a2 us.length c2) us :: [Thing.graph F I gb W 1048576 L]) := by
        refine HL3.out.new_row hb5 ⟨by rw [List.length_map, Nat.mul_one], .inr ⟨ib, 6, _, by rw [six_len], hib2, hg5, by rw [six_len]; exact Nat.le_refl _, by decide, by simp [six_len], ?_⟩⟩
        rw [List.take_of_length_le (by simp)]
      obtain ⟨inner, hinner⟩ : ∃ inner, six vals = inner := ⟨_, rfl⟩
      have hin6 := six_len vals
      have hinu := six_u64 HVU.out
      rw [hinner] at hl5 hin6 hinu
      have hlen6 : inner.length ≤ 1000000000 := by omega
      have hsl := hl5.head
      have hsl2 : SliceOf w5 .u64 (.slice (some ⟨ib, 0, none⟩) 6 6) inner := Lab.nums13_slice hsl
      have HL5 := Lib.hid hl5; have HIN := Lib.hid (And.intro hin6 hinu)
      clear hl5 hinner hin6 hinu hg5 hb5 hsl HV4 HVU HN4 hl4 HL3
      go_wp2_with (at_builtin; refine wpList_append_copy 88 22 .u64 8 _ _ _ inner hsl2 _ _ rfl rfl Try.underlying88 Try.infoU64 (by decide) rfl rfl hlen6 (Nat.le_refl _) ?_; intro v6 w6 hown6 hb6)
      have hl6 := HL5.out.new_nums13 hb6 hown6
      obtain ⟨g6, c6, rfl⟩ := own_some hown6 (fun e => by have := HIN.out.1; rw [e] at this; simp at this)
      have hin : AllIn L us := fun u hu => HOK.out.terms u hu
      have hgr : Lab w w6 (Thing.graph F I gb W 1048576 L :: [Thing.nums13 (.slice (some ⟨g6, 0, none⟩) inner.length c6) inner, Thing.nums13 (.slice (some ⟨ib, 0, none⟩) 6 6) inner, Thing.ints (.slice a1 vs.length c1) vs, Thing.ints (.slice a2 us.length c2) us]) := hl6.perm (List.perm_middle (l₁ := [_, _, _, _]) (l₂ := []))
      have hul : us.length ≤ 1000000000 := by have := HOK.out.small; have := HOK.out.len; omega
      have hall := all_any hgr.gr us inner _ _ (OwnInts.slice hl6.fourth) (hsl2.below hb6) hul (by omega) HIN.out.2
      rw [allR_in hin] at hall
      have HALL := Lib.hid hall; have HL6 := Lib.hid hl6
      clear hall hl6 hgr hsl2 hown6 hb6 hin HL5 hcopy
      go_at_call 48
      refine HALL.out.mono ?_
      rintro e w7 ⟨a7, m7, c7, rfl, hown7, hb7⟩
      obtain ⟨vals7, hv7⟩ : ∃ vals7, allV W inner L us = vals7 := ⟨_, rfl⟩
      rw [hv7] at hown7
      have hl7 : m7 = vals7.length := by
        obtain ⟨a', n', c', e, hl, -⟩ := hown7.slice.parts
        simp only [Value.slice.injEq] at e
        obtain ⟨rfl, rfl, rfl⟩ := e
        exact hl.symm
      subst hl7
      have hvl : vals7.length = vs.length := by rw [← hv7, HOK.out.len]; exact List.length_map _
      have HL7 := Lib.hid (HL6.out.new_nums13 hb7 hown7).swap; have HV7 := Lib.hid (And.intro hv7 hvl)
      have q1 : ((vals7.length : Int) != (vs.length : Int)) = false := by rw [hvl]; simp
      have hi6 : inner.length = 6 := HIN.out.1
      clear hown7 hb7 HALL hv7 HL6 hvl
      rw [hi6] at HL7 ⊢
      go_wp2
      have hvs6 := HOK.out.small
      go_loopw [19] (fun i wx => ∃ k : Nat, k ≤ vs.length ∧ i = .int .i64 k ∧ Lab w wx [Thing.row 22 1 (.slice (some ⟨g6, 0, none⟩) 6 c6) 6 ((outerK inner vals7 k vs).map (Value.int .u64)), Thing.nums13 (.slice a7 vals7.length c7) vals7, Thing.nums13 (.slice (some ⟨ib, 0, none⟩) 6 6) inner, Thing.ints (.slice a1 vs.length c1) vs, Thing.ints (.slice a2 us.length c2) us, Thing.graph F I gb W 1048576 L]) (fun i _ => vs.length - (intOf i).toNat)
      case atStart =>
        refine ⟨0, by omega, rfl, ?_⟩
        have := HL7.out
        unfold Thing.nums13 at this ⊢
        rw [hi6] at this ⊢
        exact this
      case round =>
        obtain ⟨k, hk, rfl, hl⟩ := hrel
        clear HL7
        by_cases hlt : k < vs.length
        · have hlt' : (k : Int) < (vs.length : Int) := by omega
          have hlt7 : (k : Int) < (vals7.length : Int) := by rw [HV7.out.2]; exact hlt'
          have hints : OwnInts wr 0 3 .i64 (.slice a1 vs.length c1) vs := hl.fourth
          obtain ⟨b1, o1, v, rfl, hc1, hvk⟩ := hints.slice.parts' hlt
          obtain ⟨b7, o7, q, rfl, hc7, hqk⟩ := (Lab.nums13_slice hl.second).parts' (by rw [HV7.out.2]; exact hlt)
          have hv6 := HOK.out.vars v (List.mem_of_getElem? hvk)
          obtain ⟨j, rfl⟩ := Int.eq_ofNat_of_zero_le hv6.1
          have hj6 : j < 6 := by omega
          have hj6' : (j : Int) < 6 := by omega
          have hout : ((outerK inner vals7 k vs).map (Value.int .u64))[j]? = some (.int .u64 ((outerK inner vals7 k vs).getD j 0)) := by
            rw [List.getElem?_map, List.getD_eq_getElem?_getD, List.getElem?_eq_getElem (by rw [outerK_len]; omega)]; rfl
          obtain ⟨d1, d2⟩ := hl.row_cell (j := j) hj6
          rw [hout] at d1
          have hset := (hl.row_set j (.int .u64 q)).drew1
          have hnext : ((outerK inner vals7 k vs).map (Value.int .u64)).set j (.int .u64 q) = (outerK inner vals7 (k + 1) vs).map (Value.int .u64) := by
            show _ = (List.set _ _ _).map _
            rw [List.map_set, show vs.getD k 0 = (j : Int) by rw [List.getD_eq_getElem?_getD, hvk]; rfl, show vals7.getD k 0 = q by rw [List.getD_eq_getElem?_getD, hqk]; rfl, Int.toNat_natCast]
          rw [hnext] at hset
          have hints2 : OwnInts (wr.setCell ⟨g6, j, none⟩ (.int .u64 q)).drew 0 3 .i64 (.slice (some ⟨b1, o1, none⟩) vs.length c1) vs := hset.fourth
          have e1 := hints2.slice.at hvk
          have e7 := (Lab.nums13_slice hset.second).parts' (i := k) (by rw [HV7.out.2]; exact hlt)
          obtain ⟨b7', o7', q', e7a, e7b, e7c⟩ := e7
          simp only [Option.some.injEq, Addr.mk.injEq, and_true] at e7a
          obtain ⟨rfl, rfl⟩ := e7a
          obtain rfl : q = q' := Option.some.inj (hqk.symm.trans e7c)
          have HS := Lib.hid hset
          clear hset hnext hout hints hints2 e7c hl hvk hqk hv6
          go_upto_region 17 with fail
          go_region_held3 (fun w' => w'.cell? ⟨b1, o1 + k, none⟩ = some (.int .i64 j) ∧ w'.cell? ⟨b7, o7 + k, none⟩ = some (.int .u64 q)) (first | exact ⟨hc1, hc7⟩ | exact ⟨by assumption, by assumption⟩ | go_keep | trivial) (fail)
          go_wp2
          go_roundw
          case rel => exact ⟨k + 1, by omega, by go_num, HS.out⟩
          case measure => simp [intOf]; omega
        · obtain rfl : k = vs.length := by omega
          have hgr2 : Lab w wr (Thing.graph F I gb W 1048576 L :: [Thing.row 22 1 (.slice (some ⟨g6, 0, none⟩) 6 c6) 6 ((outerK inner vals7 vs.length vs).map (Value.int .u64)), Thing.nums13 (.slice a7 vals7.length c7) vals7, Thing.nums13 (.slice (some ⟨ib, 0, none⟩) 6 6) inner, Thing.ints (.slice a1 vs.length c1) vs, Thing.ints (.slice a2 us.length c2) us]) := hl.perm (List.perm_middle (l₁ := [_, _, _, _, _]) (l₂ := []))
          obtain ⟨hso, L', sx, hR1, hR2, hw', hg', hpre, hlen', hsx⟩ := subst_pairs (room := 1048576) hW2 HWF.out HG.out HOK.out htl (by omega)
          have hvals := subst_values hW1 hW2 HWF.out HG.out HOK.out htl hi6 hR1
          rw [show (us.map fun u => val W inner L u.toNat) = vals7 from HV7.out.1, ← val_prefix hpre htl] at hvals
          have hcall := hgr2.subst (t : Int) _ _ vs us (OwnInts.slice hl.fourth) (OwnInts.slice hl.fifth) HG.out HOK.out.wf (by have := HOK.out.small; omega) (by have := HOK.out.small; have := HOK.out.len; omega) hR2
          have hinner : ∀ (wx : World) (F I : List Nat) (M : List PNode), Lab w wx (Thing.graph F I gb W 1048576 M :: [Thing.row 22 1 (.slice (some ⟨g6, 0, none⟩) 6 c6) 6 ((outerK inner vals7 vs.length vs).map (Value.int .u64)), Thing.nums13 (.slice a7 vals7.length c7) vals7, Thing.nums13 (.slice (some ⟨ib, 0, none⟩) 6 6) inner, Thing.ints (.slice a1 vs.length c1) vs, Thing.ints (.slice a2 us.length c2) us]) → SliceOf wx .u64 (.slice (some ⟨ib, 0, none⟩) 6 6) inner ∧ SliceOf wx .u64 (.slice (some ⟨g6, 0, none⟩) 6 c6) (outerK inner vals7 vs.length vs) := fun wx F I M h => ⟨Lab.nums13_slice h.fourth, sliceOf_owns h.second⟩
          have hvu7 : U64s vals7 := by
            rw [← HV7.out.1]
            intro x hx
            obtain ⟨u, -, rfl⟩ := List.mem_map.1 hx
            exact val_u64 hW1 hW2 inner HWF.out u.toNat
          have hou := outerK_u64 (vs := vs) HIN.out.2 hvu7 vs.length
          have hol := outerK_len inner vals7 vs vs.length
          have HC := Lib.hid hcall; have HINN := Lib.hid hinner; have HO := Lib.hid (And.intro hou (And.intro hol hvals)); have HS := Lib.hid (And.intro hsx hpre.length_le)
          clear hcall hinner hou hol hvals hso hR1 hR2 hw' hg' hpre hsx hvu7 hgr2 hl
          go_wp2_with fail
          go_at_call 39
          refine HC.out.mono ?_
          rintro e w8 ⟨F8, I8, rfl, hl8⟩
          have HL8 := Lib.hid hl8
          clear hl8
          go_wp2_with fail
          go_at_call 46
          refine (HL8.out.eval12 sx HS.out.1 inner _ (HINN.out _ _ _ _ HL8.out).1 (by omega) HIN.out.2 HO.out.2.2).mono ?_
          rintro e w9 ⟨rfl, hl9⟩
          have HL9 := Lib.hid hl9
          clear hl9
          go_wp2_with fail
          go_at_call 46
          refine (HL9.out.eval12 t (by have := HS.out.2; omega) (outerK inner vals7 vs.length vs) _ (HINN.out _ _ _ _ HL9.out).2 (by rw [HO.out.2.1]; omega) HO.out.1 rfl).mono ?_
          rintro e w10 ⟨rfl, hl10⟩
          have HAW := Lib.hid hl10.awake13
          clear hl10 HO
          generalize val W (outerK inner vals7 vs.length vs) L' t = V at *
          have q2 : (V == V) = true := by simp
          go_wp2_with (go_at_call 41; refine HAW.out.mono ?_; rintro e w11 ⟨rfl, hb⟩)
          go_ret
          exact ⟨rfl, hb⟩
end Go.Proofs.Ytcpgiadhmmmafaa
