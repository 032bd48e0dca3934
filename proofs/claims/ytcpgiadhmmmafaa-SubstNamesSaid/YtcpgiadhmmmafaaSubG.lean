/- Package subst: Subst whole. -/
import Derived.Test.YtcpgiadhmmmafaaSubF
namespace Go.Proofs.Ytcpgiadhmmmafaa
open Go.RowKit Go.Maps
set_option maxHeartbeats 3200000

/-- What was made since joins what was there. -/
theorem Lab.join {w0 wr wx : World} {ts us : List Thing} (h : Lab w0 wr ts) (hu : Lab wr wx us) (hR : ∀ u ∈ us, ∀ k, k ∈ u.R → wr.heap.size ≤ k) : Lab w0 wx (us ++ ts) := by
  have hl := h.later hu.below
  refine ⟨hl.below, fun t ht => ?_, fun t ht k hk => ?_, fun t ht => ?_, List.pairwise_append.2 ⟨hu.apart, hl.apart, fun u h1 t h2 => ⟨fun k hk => ⟨fun h3 => ?_, fun h3 => ?_⟩, fun k hk h3 => ?_⟩⟩⟩
  · rcases List.mem_append.1 ht with h1 | h1
    · exact hu.holds t h1
    · exact hl.holds t h1
  · rcases List.mem_append.1 ht with h1 | h1
    · exact Nat.le_trans h.below.size (hu.low t h1 k hk)
    · exact hl.low t h1 k hk
  · rcases List.mem_append.1 ht with h1 | h1
    · exact hu.high t h1
    · exact hl.high t h1
  · have := hu.low u h1 k hk; have := h.high t h2 k (.inl h3); omega
  · have := hu.low u h1 k hk; have := h.high t h2 k (.inr h3); omega
  · have := hR u h1 k hk; have := h.high t h2 k (.inl h3); omega
theorem take_snoc2 {ps : List (Int × Int)} {k : Nat} {p : Int × Int} (h : ps[k]? = some p) : ps.take (k + 1) = ps.take k ++ [p] := by
  rw [List.take_add_one, h]; rfl
theorem subOf_snoc (ps : List (Int × Int)) (p : Int × Int) (j : Nat) : subOf (ps ++ [p]) j = (subOf ps j).or (if p.1 = (j : Int) then some p.2 else none) := by
  unfold subOf
  rw [List.find?_append]
  by_cases h : p.1 = (j : Int)
  · cases List.find? (fun p => p.1 == (j : Int)) ps <;> simp [h]
  · have : (p.1 == (j : Int)) = false := by simp [h]
    cases List.find? (fun p => p.1 == (j : Int)) ps <;> simp [h]
theorem fV_put {ps : List (Int × Int)} {k : Nat} {v u : Int} (h : ps[k]? = some (v, u)) (hv : 0 ≤ v) (hn : v ∉ (ps.take k).map (·.1)) : ∀ j, (if j = v then some (.int .i64 u) else fVof (ps.take k) j) = fVof (ps.take (k + 1)) j := by
  intro j
  rw [take_snoc2 h]
  unfold fVof
  by_cases e : j = v
  · subst e
    rw [if_pos rfl, if_pos hv, subOf_snoc, if_pos (by show j = _; omega)]
    have : subOf (ps.take k) j.toNat = none := subOf_none.2 fun s hs => hn (List.mem_map.2 ⟨_, hs, by show (j.toNat : Int) = j; omega⟩)
    rw [this]; rfl
  · rw [if_neg e]
    by_cases h0 : 0 ≤ j
    · rw [if_pos h0, if_pos h0, subOf_snoc, if_neg (by show ¬ v = _; omega), Option.or_none]
    · rw [if_neg h0, if_neg h0]
theorem fV_skip {ps : List (Int × Int)} {k : Nat} {v u : Int} (h : ps[k]? = some (v, u)) (hv : ¬ 0 ≤ v) : ∀ j, fVof (ps.take k) j = fVof (ps.take (k + 1)) j := by
  intro j
  rw [take_snoc2 h]
  unfold fVof
  by_cases h0 : 0 ≤ j
  · rw [if_pos h0, if_pos h0, subOf_snoc, if_neg (by show ¬ v = _; omega), Option.or_none]
  · rw [if_neg h0, if_neg h0]
/-- The variables that were seen. -/
def seenS (ps : List (Int × Int)) (k : Nat) : Int → Bool := fun j => decide (j ∈ (ps.take k).map (·.1))
theorem seen_put {ps : List (Int × Int)} {k : Nat} {v u : Int} (h : ps[k]? = some (v, u)) : (fun j => if j = v then true else seenS ps k j) = seenS ps (k + 1) := by
  funext j
  unfold seenS
  rw [take_map_snoc h]
  by_cases e : j = v
  · simp [e]
  · simp [e]
/-- What Subst answers. -/
def subst2R (W room : Nat) (L : List PNode) (t : Int) (vs us : List Int) : List PNode × Nat × Nat :=
  if 0 ≤ t ∧ t < (L.length : Int) then (if vs.length = us.length then substR W room L t (vs.zip us) else (L, 0, 2)) else (L, 0, 3)
section
variable {w0 wr w' : World} {ts : List Thing} {F I : List Nat} {gb W room : Nat} {L : List PNode}
/-- Subst ends early: an error, and nothing else. -/
theorem sub_early {tmps : Array Value} {p0 p1 : Nat} {w1 : World} {us : List Thing} {f : Nat} {a b : Int} (h : Lab w0 wr (Thing.graph F I gb W room L :: ts)) (hl : Lab wr w1 (Thing.box p0 3 #[.int .i64 a] :: Thing.box p1 36 #[.int .i64 b] :: us)) (t0 : tmps.getD 8 undef = .pointer (some ⟨p0, 0, none⟩)) (t1 : tmps.getD 9 undef = .pointer (some ⟨p1, 0, none⟩)) :
    Leaves Try.prog Try.f39 tmps (SubPost w0 gb W room ts (L, 0, f)) [] .returning ((w1.setCell ⟨p0, 0, none⟩ (.int .i64 0)).setCell ⟨p1, 0, none⟩ (.int .i64 f)) := by
  have h2 := ((hl.store 0 (.int .i64 0)).swap.store 0 (.int .i64 f)).swap
  refine ⟨_, sub_results (a := 0) (b := f) t0 t1 ?_ ?_, F, I, rfl, h.later h2.below⟩
  · rw [cell_of_row _ p0 0 _ _ _ h2.box1]; rfl
  · rw [cell_of_row _ p1 0 _ _ _ h2.box2]; rfl
set_option maxRecDepth 100000 in
theorem subst_nil (w : World) (t : Int) (v u : Value) : Calls Try.prog 39 #[.pointer none, .int .i64 t, v, u] w fun e w' => e = .returned (.tuple #[.int .i64 0, .int .i64 1]) ∧ Below w.heap.size w w' := by
  go_enter_defers Try.func39, Try.ntmps39
  go_wp2
  have h0 := (((Lab.nil (Below.refl w.heap.size w)).alloc #[.int .i64 0] 3).alloc #[.int .i64 1] 36)
  rw [alsz] at h0
  refine ⟨_, sub_results (p0 := w.heap.size) (p1 := w.heap.size + 1) (a := 0) (b := 1) rfl rfl ?_ ?_, rfl, h0.below⟩
  · rw [cell_of_row _ _ 0 _ _ _ h0.box2]; rfl
  · rw [cell_of_row _ _ 0 _ _ _ h0.box1]; rfl
/-- What Subst has made ahead of its first loop. -/
def sub1Things (p0 p1 gb mS mB mV pb : Nat) (S : Int → Bool) (cS : Nat) (fV : Int → Option Value) (cV : Nat) : List Thing :=
  [Thing.box p0 3 #[.int .i64 0], Thing.box p1 36 #[.int .i64 0], Thing.mapf 3 .i64 mS (setF S) cS, Thing.mapf 22 .u64 mV fV cV, Thing.box pb 132 #[.pointer (some ⟨gb, 0, none⟩), .map (some mB), .map (some mV)], Thing.mapf 3 .i64 mB (fun _ => none) 0]
theorem sub1_start {w1 : World} {p0 p1 mS mB mV pb : Nat} (h : Lab wr w1 [Thing.box pb 132 #[.pointer (some ⟨gb, 0, none⟩), .map (some mB), .map (some mV)], Thing.mapf 22 .u64 mV (fun _ => none) 0, Thing.mapf 3 .i64 mB (fun _ => none) 0, Thing.mapf 3 .i64 mS (fun _ => none) 0, Thing.box p0 3 #[.int .i64 0], Thing.box p1 36 #[.int .i64 0]]) :
    Lab wr w1 (sub1Things p0 p1 gb mS mB mV pb (fun _ => false) 0 (fun _ => none) 0) := by
  have h1 := h.perm (ts' := [Thing.box p0 3 #[.int .i64 0], Thing.box p1 36 #[.int .i64 0], Thing.mapf 3 .i64 mS (fun _ => none) 0, Thing.mapf 22 .u64 mV (fun _ => none) 0, Thing.box pb 132 #[.pointer (some ⟨gb, 0, none⟩), .map (some mB), .map (some mV)], Thing.mapf 3 .i64 mB (fun _ => none) 0])
    ((List.perm_append_comm (l₁ := [_, _, _, _]) (l₂ := [_, _])).trans (.cons _ (.cons _ ((List.perm_append_comm (l₁ := [_, _, _]) (l₂ := [_])).trans (.cons _ (.swap _ _ _))))))
  exact (h1.rot3.mapf_congr (g := setF fun _ => false) (fun _ => rfl)).rot3'
theorem Lab.congr_seen {w1 : World} {p0 p1 mS mB mV pb cS cV : Nat} {S S' : Int → Bool} {fV : Int → Option Value} (h : Lab wr w1 (sub1Things p0 p1 gb mS mB mV pb S cS fV cV)) (e : ∀ j, S' j = S j) : Lab wr w1 (sub1Things p0 p1 gb mS mB mV pb S' cS fV cV) := by rw [funext e]; exact h
theorem Lab.congr_vars {w1 : World} {p0 p1 mS mB mV pb cS cV : Nat} {S : Int → Bool} {fV fV' : Int → Option Value} (h : Lab wr w1 (sub1Things p0 p1 gb mS mB mV pb S cS fV cV)) (e : ∀ j, fV' j = fV j) : Lab wr w1 (sub1Things p0 p1 gb mS mB mV pb S cS fV' cV) := by rw [funext e]; exact h
set_option maxRecDepth 100000 in
theorem Lab.subst {wq : World} (h : Lab w0 wq (Thing.graph F I gb W room L :: ts)) (t : Int) (vv uv : Value) (vs us : List Int) (hv : SliceOf wq .i64 vv vs) (hu : SliceOf wq .i64 uv us) (hg : GoodL W L) (hvi : ∀ v ∈ vs, (Lit.int .i64 v).wf = true) (hnv : vs.length ≤ 9223372036854775807) (hnu : us.length ≤ 9223372036854775807) {R : List PNode × Nat × Nat} (hR : subst2R W room L t vs us = R) :
    Calls Try.prog 39 #[.pointer (some ⟨gb, 0, none⟩), .int .i64 t, vv, uv] wq (SubPost w0 gb W room ts R) := by
  obtain ⟨va, n, vc, rfl, hvn, -⟩ := hv.parts
  obtain ⟨ua, m, uc, rfl, hum, -⟩ := hu.parts
  have hlen : ∀ wx, Below wq.heap.size wq wx → Calls Try.prog 24 #[.pointer (some ⟨gb, 0, none⟩)] wx fun e w' => e = .returned (.int .i64 L.length) ∧ wx = w' := fun wx hb => (len_any (h.later hb).gr).mono fun e w' h => h
  have hl0 := (((Lab.nil (Below.refl wq.heap.size wq)).alloc #[.int .i64 0] 3).alloc #[.int .i64 0] 36).swap
  obtain ⟨p0, hp0⟩ : ∃ p0, wq.heap.size = p0 := ⟨_, rfl⟩
  rw [alsz, hp0] at hl0
  obtain ⟨ps, hps⟩ : ∃ ps, vs.zip us = ps := ⟨_, rfl⟩
  have hwf := h.gr.wf
  have HL := Lib.hid h; have HLEN := Lib.hid hlen; have HL0 := Lib.hid hl0; have HR := Lib.hid hR; have HV := Lib.hid (And.intro hv (And.intro hvn hvi)); have HU := Lib.hid (And.intro hu hum); have HP := Lib.hid hps; have HG := Lib.hid (And.intro hg hwf)
  have hn1 : n ≤ 9223372036854775807 := by omega
  have hm1 : m ≤ 9223372036854775807 := by omega
  have hll : L.length ≤ 1048576 := by have := h.gr.len; have := h.gr.r2; omega
  clear h hlen hl0 hR hv hvn hvi hu hum hps hg hwf hnv hnu
  go_enter_defers Try.func39, Try.ntmps39
  go_upto_region 3 with fail
  clear hp0
  have hne : p0 ≠ p0 + 1 := by omega
  generalize p0 + 1 = p1 at HL0 hne ⊢
  refine wp_abs (fun w1 => Lab wq w1 [Thing.box p0 3 #[.int .i64 0], Thing.box p1 36 #[.int .i64 0]]) HL0.out ?_
  clear HL0
  rintro w1 hl
  have b0 : w1.cell? ⟨p0, 0, none⟩ = some (.int .i64 0) := by rw [cell_of_row w1 p0 0 _ _ _ hl.box1]; rfl
  have b1 : w1.cell? ⟨p1, 0, none⟩ = some (.int .i64 0) := by rw [cell_of_row w1 _ 0 _ _ _ hl.box2]; rfl
  have f0 := frozen_of_row w1 p0 0 _ _ hl.box1
  have f1 := frozen_of_row w1 p1 0 _ _ hl.box2
  have HL1 := Lib.hid hl
  clear hl
  by_cases ht : 0 ≤ t ∧ t < (L.length : Int)
  case neg =>
    have hRR : R = (L, 0, 3) := by rw [← HR.out]; unfold subst2R; rw [if_neg ht]
    subst hRR
    by_cases ht0 : t < 0
    · go_wp2_with (go_at_call 24; refine (HLEN.out _ HL1.out.below).mono ?_; rintro e w' ⟨rfl, rfl⟩)
      exact sub_early HL.out HL1.out rfl rfl
    · have ht1 : (L.length : Int) ≤ t := by omega
      go_wp2_with (go_at_call 24; refine (HLEN.out _ HL1.out.below).mono ?_; rintro e w' ⟨rfl, rfl⟩)
      exact sub_early HL.out HL1.out rfl rfl
  case pos =>
    have ht0 : ¬ t < 0 := by omega
    have ht1 : ¬ (L.length : Int) ≤ t := by omega
    by_cases hnm : n = m
    case neg =>
      have hRR : R = (L, 0, 2) := by rw [← HR.out]; unfold subst2R; rw [if_pos ht, if_neg (by rw [HV.out.2.1, HU.out.2]; exact hnm)]
      subst hRR
      have q0 : ((n : Int) != (m : Int)) = true := by rw [bne_iff_ne]; omega
      go_wp2_with (go_at_call 24; refine (HLEN.out _ HL1.out.below).mono ?_; rintro e w' ⟨rfl, rfl⟩)
      exact sub_early HL.out HL1.out rfl rfl
    case pos =>
      subst hnm
      have q0 : ((n : Int) != (n : Int)) = false := by simp
      obtain ⟨mS, hmS⟩ : ∃ mS, w1.heap.size = mS := ⟨_, rfl⟩
      have hl2 := (((HL1.out.new_map 3 .i64).new_map 3 .i64).new_map 22 .u64).alloc #[.pointer (some ⟨gb, 0, none⟩), .map (some (mS + 1)), .map (some (mS + 2))] 132
      simp only [alsz] at hl2
      rw [hmS] at hl2
      have HL2 := Lib.hid hl2
      clear hl2
      have hmm := @run_makeMap Try.prog
      go_upto_region 9 with (go_at_call 24; refine (HLEN.out _ HL1.out.below).mono ?_; rintro e w' ⟨rfl, rfl⟩)
      clear hmS hmm
      have hl2 := HL2.out
      clear HL2
      simp only [show mS + 2 = mS + 1 + 1 from rfl] at hl2
      generalize mS + 1 + 1 + 1 = pb at hl2 ⊢
      generalize mS + 1 + 1 = mV at hl2 ⊢
      generalize mS + 1 = mB at hl2 ⊢
      refine wp_abs (fun w2 => Lab wq w2 (sub1Things p0 p1 gb mS mB mV pb (fun _ => false) 0 (fun _ => none) 0)) (sub1_start hl2) ?_
      clear hl2 HL1
      rintro w2 hl
      have hl2 := (hl.congr_seen (S' := seenS ps 0) (fun j => by unfold seenS; simp)).congr_vars (fV' := fVof (ps.take 0)) (fun j => by unfold fVof subOf; simp)
      have HL1 := Lib.hid hl2
      clear hl hl2 b0 b1 f0 f1
      go_wp2
      rename_i K hK
      have HK := Lib.hid hK
      clear hK
      go_loopw [44] (fun i wx => ∃ k : Nat, k ≤ n ∧ i = .int .i64 k ∧ subErr L ps k = 0 ∧ ∃ cS cV, Lab wq wx (sub1Things p0 p1 gb mS mB mV pb (seenS ps k) cS (fVof (ps.take k)) cV)) (fun i _ => n - (intOf i).toNat)
      case atStart => exact ⟨0, by omega, rfl, rfl, 0, 0, HL1.out⟩
      case round =>
        clear HL1
        obtain ⟨k, hk, rfl, hse, cS, cV, hl⟩ := hrel
        have b0 : wr.cell? ⟨p0, 0, none⟩ = some (.int .i64 0) := by rw [cell_of_row wr p0 0 _ _ _ hl.box1]; rfl
        have b1 : wr.cell? ⟨p1, 0, none⟩ = some (.int .i64 0) := by rw [cell_of_row wr _ 0 _ _ _ hl.box2]; rfl
        have f0 := frozen_of_row wr p0 0 _ _ hl.box1
        have f1 := frozen_of_row wr p1 0 _ _ hl.box2
        by_cases hlt : k < n
        · have hlt' : (k : Int) < (n : Int) := by omega
          obtain ⟨b, off, v, rfl, hc, hvk⟩ := (HV.out.1.below hl.below).parts' hlt
          obtain ⟨b2, off2, u, rfl, hc2, huk⟩ := (HU.out.1.below hl.below).parts' hlt
          have hp : ps[k]? = some (v, u) := by rw [← HP.out]; exact List.getElem?_zip_eq_some.2 ⟨hvk, huk⟩
          have hwv := HV.out.2.2 v (List.mem_of_getElem? hvk)
          have hsk := subErr_succ hse hp
          have hask := MapF.ask (T := 127) (E := 4) hl.third Try.underlying3 Try.underlying127 (zeroBool _) hwv
          have HL1 := Lib.hid hl; have HPK := Lib.hid hp; have HWV := Lib.hid hwv; have HUK := Lib.hid huk; have HSK := Lib.hid (And.intro hse hsk)
          have hend : ∀ f, subErr L ps (k + 1) = f → f ≠ 0 → R = (L, 0, f) := fun f h1 h2 => by
            have h3 := subErr_stop (L := L) (ps := ps) (k := k + 1) (by rw [h1]; exact h2) ps.length (by have := (List.getElem?_eq_some_iff.1 hp).1; omega)
            rw [← HR.out]
            unfold subst2R substR
            rw [if_pos ht, if_pos (by rw [HV.out.2.1, HU.out.2]), if_pos ht, HP.out, h3, h1, if_neg h2]
          have HEND := Lib.hid hend
          clear hl hvk huk hp hwv hse hsk hend
          by_cases hseen : seenS ps k v = true
          · have hRR : R = (L, 0, 8) := HEND.out 8 (by rw [HSK.out.2, if_pos (by simpa [seenS] using hseen)]) (by decide)
            rw [hseen] at hask
            subst hRR
            clear HEND HR
            go_wp2
            exact sub_early HL.out HL1.out rfl rfl
          · have hns : v ∉ (ps.take k).map (·.1) := fun e => hseen (by simpa [seenS] using e)
            have hsk := HSK.out.2
            rw [if_neg hns] at hsk
            rw [Bool.not_eq_true] at hseen
            rw [hseen] at hask
            have hgr := (HL.out.later HL1.out.below).gr
            have HGR := Lib.hid hgr; have HNS := Lib.hid hns; have HSK2 := Lib.hid hsk
            clear hgr hns hsk HSK
            by_cases hur : 0 ≤ u ∧ u < (L.length : Int)
            · have hu0 : decide (u < 0) = false := by simp; omega
              have hu1 : decide ((L.length : Int) ≤ u) = false := by simp; omega
              go_upto_region 14 with fail
              go_quiet ((first | (go_at_call 24; exact len_quiet HGR.out _)))
              go_upto_region 16 with fail
              clear hask hc hc2 b0 b1 f0 f1 HGR
              refine wp_abs (fun w3 => Lab wq w3 (sub1Things p0 p1 gb mS mB mV pb (seenS ps k) cS (fVof (ps.take k)) cV)) (HL1.out.drewN _) ?_
              clear HL1
              rintro w3 hl
              obtain ⟨hr1, c1, hl2⟩ := Lab.sput (T := 127) (E := 4) (k := v) ⟨cS, hl.rot3⟩ Try.underlying3 Try.underlying127 HWV.out
              rw [seen_put HPK.out] at hl2
              have HL2 := Lib.hid hl2.rot3'
              clear hl hl2
              go_upto_region 17 with fail
              clear hr1
              refine wp_abs (fun w3 => Lab wq w3 (sub1Things p0 p1 gb mS mB mV pb (seenS ps (k + 1)) c1 (fVof (ps.take k)) cV)) HL2.out ?_
              clear HL2
              rintro w4 hl
              have hse1 : subErr L ps (k + 1) = 0 := by rw [HSK2.out, if_pos hur]
              have HSE := Lib.hid hse1
              clear HSK2 HEND
              by_cases hv0 : 0 ≤ v
              · have hvmax : v ≤ 9223372036854775807 := by have := HWV.out; simp [Lit.wf, IntKind.min, IntKind.max, IntKind.signed, IntKind.bits] at this; omega
                have hvm : IntKind.u64.wrap v = v := by simp [IntKind.wrap, IntKind.bits, IntKind.signed]; omega
                obtain ⟨hput, hl2⟩ := Lab.mput (T := 130) (E := 3) (k := v) hl.drew1.rot4 Try.underlying22 Try.underlying130 (wf_u64 hv0 (by omega)) (.int .i64 u)
                obtain ⟨q0, q1, q2⟩ := cells3 (hl.mem_box (b := pb) (T := 132) (arr := #[.pointer (some ⟨gb, 0, none⟩), .map (some mB), .map (some mV)]) (by simp [sub1Things]))
                obtain ⟨y0, y1, y2⟩ := cells3 (hl2.mem_box (b := pb) (T := 132) (arr := #[.pointer (some ⟨gb, 0, none⟩), .map (some mB), .map (some mV)]) (by simp))
                have hc2 := (HU.out.1.below hl.below).at HUK.out
                have hc3 := (HU.out.1.below hl2.below).at HUK.out
                have hl3 := hl2.mapf_congr (fV_put HPK.out hv0 HNS.out)
                have HL3 := Lib.hid (hl3.perm ((List.perm_middle (l₁ := [_, _, _])).symm))
                clear hl hl2 hl3
                go_upto_region 18 with fail
                go_region_held3 (fun w' => w'.cell? ⟨pb, 2, none⟩ = some (.map (some mV)) ∧ w'.cell? ⟨b2, off2 + k, none⟩ = some (.int .i64 u)) (first | exact ⟨q2, hc2⟩ | exact ⟨by assumption, by assumption⟩ | go_keep) (fail)
                go_wp2
                go_roundw
                case rel => exact ⟨k + 1, by omega, by go_num, HSE.out, c1, _, HL3.out⟩
                case measure => simp [intOf]; omega
              · have HL3 := Lib.hid (hl.congr_vars fun j => (fV_skip HPK.out hv0 j).symm)
                clear hl
                go_wp2
                go_roundw
                case rel => exact ⟨k + 1, by omega, by go_num, HSE.out, c1, cV, HL3.out⟩
                case measure => simp [intOf]; omega
            · have hRR : R = (L, 0, 3) := HEND.out 3 (by rw [HSK2.out, if_neg hur]) (by decide)
              subst hRR
              clear HEND HR
              by_cases hu0' : u < 0
              · have hu0 : decide (u < 0) = true := by simp; omega
                go_upto_region 14 with fail
                go_quiet ((first | (go_at_call 24; exact len_quiet HGR.out _)))
                go_wp2
                exact sub_early HL.out (HL1.out.drewN _) rfl rfl
              · have hu0 : decide (u < 0) = false := by simp; omega
                have hu1 : decide ((L.length : Int) ≤ u) = true := by simp; omega
                go_upto_region 14 with fail
                go_quiet ((first | (go_at_call 24; exact len_quiet HGR.out _)))
                go_wp2
                exact sub_early HL.out (HL1.out.drewN _) rfl rfl
        · obtain rfl : k = n := by omega
          obtain ⟨z, rfl⟩ := Int.eq_ofNat_of_zero_le ht.1
          have hpl : ps.length = k := by rw [← HP.out, List.length_zip, HV.out.2.1, HU.out.2]; exact Nat.min_self _
          have hok : SubOk L ps := subErr_end (by rw [hpl]; exact hse)
          rw [List.take_of_length_le (by omega)] at hl
          have hz : z < L.length := by omega
          have hRR : madeEnd z (madeRun W room L (occ L z) (subLf ps) (z + 1)) = R := by
            rw [← HR.out]
            unfold subst2R
            rw [if_pos ht, if_pos (by rw [HV.out.2.1, HU.out.2]), HP.out, substR_in hz hok]
          have hj := HL.out.join hl (fun u hu k hk => by
            simp only [sub1Things, List.mem_cons, List.not_mem_nil, or_false] at hu
            rcases hu with rfl | rfl | rfl | rfl | rfl | rfl <;> simp [Thing.box, Thing.mapf] at hk)
          have hj2 : Lab w0 wr (Thing.graph F I gb W room L :: (sub1Things p0 p1 gb mS mB mV pb (seenS ps k) cS (fVof ps) cV ++ ts)) := hj.perm List.perm_middle
          have HJ := Lib.hid hj2; have HOK := Lib.hid hok; have HRR := Lib.hid hRR
          clear hl hj hj2 hok hRR b0 b1 f0 f1 hse
          go_wp2
          refine HK.out _ _ ?_
          refine sub_rest20 (p0 := p0) (p1 := p1) (pb := pb) hz HJ.out ?_
          intros
          rename_i hl5
          have hl6 := hl5.sub (ts' := [_, _, _, _, _, _, _, _] ++ ts) (.cons_cons _ (.cons_cons _ (.cons_cons _ (.cons_cons _ (.cons_cons _ (.cons _ (.cons_cons _ (.cons_cons _ (.cons_cons _ (List.Sublist.refl _))))))))))
          have hl7 := hl6.perm (List.Perm.append_right ts ((List.perm_append_comm (l₁ := [_, _, _, _, _]) (l₂ := [_, _, _])).trans ((List.Perm.append_right [_, _, _, _, _] (List.perm_append_comm (l₁ := [_]) (l₂ := [_, _]))).trans (List.perm_middle (l₁ := [_, _, _, _, _]) (l₂ := [_, _])))))
          have hl8 := (hl7.rot3.mapf_congr (g := fBof (occ L z) [] 0) (fun j => by unfold fBof; rw [if_neg (by omega)])).rot3'
          exact sub_rest34 hl8 hz HG.out.2 HG.out.1 HOK.out HRR.out
end
end Go.Proofs.Ytcpgiadhmmmafaa
