/- Simple of package simp. -/
import Derived.Test.YtcpgiadhmmmafaaSimpO
import Derived.Test.YtcpgiadhmmmafaaEvalT
namespace Go.Proofs.Ytcpgiadhmmmafaa
open Go.RowKit Go.Maps
set_option maxHeartbeats 3200000

/-- Behind a call that asks a graph, with whatever else there is. -/
def LabPost (w0 : World) (gb W room : Nat) (ts : List Thing) (R : List PNode × Nat × Nat) : Ending → World → Prop := fun e w' =>
  ∃ F' I', e = .returned (.tuple #[.int .i64 R.2.1, .int .i64 R.2.2]) ∧ Lab w0 w' (Thing.graph F' I' gb W room R.1 :: ts)
theorem made_next {made : List Int} {y : Nat} (hl : made.length = y) (v : Int) (i : Nat) : (if i < y + 1 then (made ++ [v]).getD i 0 else 0) = if i = y then v else if i < y then made.getD i 0 else 0 := by
  rcases Nat.lt_trichotomy i y with h | h | h
  · rw [if_pos (by omega), if_neg (by omega), if_pos h, List.getD_eq_getElem?_getD, List.getElem?_append_left (by omega), ← List.getD_eq_getElem?_getD]
  · subst h
    rw [if_pos (by omega), if_pos rfl, List.getD_eq_getElem?_getD, List.getElem?_append_right (by omega)]
    simp [hl]
  · rw [if_neg (by omega), if_neg (by omega), if_neg (by omega)]
theorem Lab.sub {w0 wr : World} {ts ts' : List Thing} (h : Lab w0 wr ts) (hs : ts'.Sublist ts) : Lab w0 wr ts' :=
  ⟨h.below, fun t ht => h.holds t (hs.subset ht), fun t ht => h.low t (hs.subset ht), fun t ht => h.high t (hs.subset ht), h.apart.sublist hs⟩
theorem Lab.rot7 {w0 wr : World} {ts : List Thing} {s t u v x y z : Thing} (h : Lab w0 wr (s :: t :: u :: v :: x :: y :: z :: ts)) : Lab w0 wr (z :: s :: t :: u :: v :: x :: y :: ts) := h.perm (List.perm_middle (l₁ := [s, t, u, v, x, y]))
theorem Lab.back5 {w0 wr : World} {ts : List Thing} {s t u v x : Thing} (h : Lab w0 wr (x :: s :: t :: u :: v :: ts)) : Lab w0 wr (s :: t :: u :: v :: x :: ts) := h.perm (List.perm_middle (l₁ := [s, t, u, v])).symm
theorem Lab.back4 {w0 wr : World} {ts : List Thing} {s t u v : Thing} (h : Lab w0 wr (v :: s :: t :: u :: ts)) : Lab w0 wr (s :: t :: u :: v :: ts) := h.perm (List.perm_middle (l₁ := [s, t, u])).symm
section
variable {w0 wr w' : World} {ts : List Thing} {F I : List Nat} {gb W room : Nat} {L : List PNode}
set_option maxRecDepth 100000 in
theorem simple_nil (w : World) (t : Int) : Calls Try.prog 30 #[.pointer none, .int .i64 t] w fun e w' => e = .returned (.tuple #[.int .i64 0, .int .i64 1]) ∧ w = w' := by
  go_enter Try.func30, Try.ntmps30
  go_wp2
  go_ret2
  exact ⟨rfl, rfl⟩
set_option maxRecDepth 100000 in
theorem simple_out (h : Lab w0 wr (Thing.graph F I gb W room L :: ts)) (t : Int) (ht : ¬ (0 ≤ t ∧ t < (L.length : Int))) :
    Calls Try.prog 30 #[.pointer (some ⟨gb, 0, none⟩), .int .i64 t] wr fun e w' => e = .returned (.tuple #[.int .i64 0, .int .i64 3]) ∧ wr = w' := by
  have HL := Lib.hid (len_any h.gr)
  clear h
  by_cases h0 : t < 0
  · clear ht
    go_enter Try.func30, Try.ntmps30
    go_wp2
    go_ret2
    exact ⟨rfl, rfl⟩
  · have h1 : (L.length : Int) ≤ t := by omega
    clear ht
    go_enter Try.func30, Try.ntmps30
    go_wp2_with (go_at_call 24; refine HL.out.mono ?_; rintro e w2 ⟨rfl, rfl⟩)
    go_ret2
    exact ⟨rfl, rfl⟩
set_option maxRecDepth 100000 in
theorem simple_in (h : Lab w0 wr (Thing.graph F I gb W room L :: ts)) (z : Nat) (hz : z < L.length) :
    Calls Try.prog 30 #[.pointer (some ⟨gb, 0, none⟩), .int .i64 z] wr (LabPost w0 gb W room ts (madeEnd z (madeRun W room L (occ L z) (fun i _ => (i : Int)) (z + 1)))) := by
  obtain ⟨R, hR⟩ : ∃ R, madeEnd z (madeRun W room L (occ L z) (fun i _ => (i : Int)) (z + 1)) = R := ⟨_, rfl⟩
  rw [hR]
  have hll : L.length ≤ 1048576 := by have := h.gr.len; have := h.gr.r2; omega
  have hwf := h.gr.wf
  have hzi : ¬ (z : Int) < 0 := by omega
  have hzl : decide (L.length ≤ z) = false := decide_eq_false (by omega)
  have hmk1 : ∀ w, (Instr.makeSlice 115 (.int .i64 ((z : Int) + 1)) (.int .i64 ((z : Int) + 1))).run Try.prog w = .ok (.slice (some ⟨w.heap.size, 0, none⟩) (z + 1) (z + 1)) (w.alloc (.cells (madeCells #[.bool false] (z + 1)) 4)) :=
    run_make_row' (P := Try.prog) 115 4 (.bool false) 1 Try.underlying115 Try.infoBool rfl .i64 .i64 (z + 1) (by omega) (by omega)
  have hmk2 : ∀ w, (Instr.makeSlice 40 (.int .i64 ((z : Int) + 1)) (.int .i64 ((z : Int) + 1))).run Try.prog w = .ok (.slice (some ⟨w.heap.size, 0, none⟩) (z + 1) (z + 1)) (w.alloc (.cells (madeCells #[.int .u8 0, .int .u64 0, .slice none 0 0] ((z + 1) * 3)) 106)) :=
    make_nodes (z + 1) (by omega)
  have hmk3 : ∀ w, (Instr.makeSlice 33 (.int .i64 ((z : Int) + 1)) (.int .i64 ((z : Int) + 1))).run Try.prog w = .ok (.slice (some ⟨w.heap.size, 0, none⟩) (z + 1) (z + 1)) (w.alloc (.cells (madeCells #[.int .i64 0] (z + 1)) 3)) :=
    run_make_row' (P := Try.prog) 33 3 (.int .i64 0) 8 Try.underlying33 Try.infoI64 rfl .i64 .i64 (z + 1) (by omega) (by omega)
  obtain ⟨ob, hob⟩ : ∃ ob, wr.heap.size = ob := ⟨_, rfl⟩
  have hl1 := h.make1 (z + 1) 4 (.bool false)
  rw [hob] at hl1
  have HL := Lib.hid (len_any h.gr); have HL1 := Lib.hid hl1; have HR := Lib.hid hR; have HWF := Lib.hid hwf
  clear h hl1 hR hwf
  go_enter Try.func30, Try.ntmps30
  go_upto_region 6 with (go_at_call 24; refine HL.out.mono ?_; rintro e w2 ⟨rfl, rfl⟩)
  clear hob hmk1
  refine wp_abs (fun w1 => Lab w0 w1 (Thing.fn ob 4 (z + 1) (fun _ => .bool false) :: Thing.graph F I gb W room L :: ts)) HL1.out ?_
  clear HL HL1
  rintro w1 hl
  have hcl := hl.fn1.cell (i := z) (by omega)
  have hfr := hl.fn1.frozen z
  have hl2 := ((hl.set z (.bool true)).fn_congr (g := fun i => .bool (i == z)) (fun i _ => by by_cases e : i = z <;> simp [e]))
  have HL1 := Lib.hid hl2
  clear hl hl2
  go_upto_region 7 with fail
  refine wp_abs (fun w1 => Lab w0 w1 (Thing.fn ob 4 (z + 1) (fun i => .bool (i == z)) :: Thing.graph F I gb W room L :: ts)) HL1.out ?_
  clear HL1 hcl hfr
  rintro w2 hl
  obtain ⟨nb, hnb⟩ : ∃ nb, w2.heap.size = nb := ⟨_, rfl⟩
  have hl2 := (hl.make (n := (z + 1) * 3) (madeCells #[.int .u8 0, .int .u64 0, .slice none 0 0] ((z + 1) * 3)) 106 _ (size_madeCells _ _) (fun i hi => madeCells_at _ _ i hi))
  have hl3 := hl2.say (s' := Thing.taken [] nb (z + 1) L (fun i => i == z) (z : Int) (z : Int)) (by rw [← hnb]; rfl) (fun _ hk => hk) (fun hh => by
    have := Taken.start (L := L) (need := fun i => i == z) hh (shape_made (z + 1))
    rw [hnb, show (((z + 1 : Nat) : Int) - 1) = (z : Int) by omega] at this
    exact this)
  have HL3 := Lib.hid hl3.swap
  clear hl hl2 hl3
  go_upto_region 8 with fail
  clear hnb hmk2
  refine wp_abs (fun w1 => Lab w0 w1 (Thing.fn ob 4 (z + 1) (fun i => .bool (i == z)) :: Thing.taken [] nb (z + 1) L (fun i => i == z) (z : Int) (z : Int) :: Thing.graph F I gb W room L :: ts)) HL3.out ?_
  clear HL3
  rintro w3 hl
  have HL3 := Lib.hid hl
  clear hl
  go_wp2
  go_loopw [8] (fun i wr => ∃ c : Int, -1 ≤ c ∧ c ≤ (z : Int) ∧ i = .int .i64 c ∧ ∃ need I2, occDown L (c + 1).toNat need = occ L z ∧ Lab w0 wr (Thing.fn ob 4 (z + 1) (fun i => .bool (need i)) :: Thing.taken I2 nb (z + 1) L need c c :: Thing.graph F I gb W room L :: ts)) (fun i _ => (intOf i + 1).toNat)
  case atStart => exact ⟨(z : Int), by omega, by omega, rfl, fun i => i == z, [], rfl, HL3.out⟩
  case round =>
    obtain ⟨c, hc0, hcM, rfl, need, I2, hnd, hl⟩ := hrel
    by_cases hcn : 0 ≤ c
    · obtain ⟨y, rfl⟩ := Int.eq_ofNat_of_zero_le hcn
      have hcl := hl.fn1.cell (i := y) (by omega)
      obtain ⟨nd, hi⟩ : ∃ nd, L[y]? = some nd := ⟨_, List.getElem?_eq_getElem (by omega)⟩
      rw [show ((y : Int) + 1).toNat = y + 1 by omega] at hnd
      by_cases hne : need y = true
      · rw [hne] at hcl
        have HL6 := Lib.hid hl; have HND2 := Lib.hid hnd; have HI := Lib.hid hi; have HNE := Lib.hid hne
        have hgx : Gr wr 0 F I gb W room L := hl.third
        have HGx := Lib.hid hgx
        clear hl hnd hi hne hgx
        go_wp2_with fail
        go_at_call 52
        refine (node_at HGx.out y nd HI.out).mono ?_
        rintro e w3 ⟨va, rfl, hva, hb3⟩
        obtain ⟨aa, am, ac, rfl⟩ := hva.val
        have hl7 := (HL6.out.new_ints hb3 hva).rot3
        obtain ⟨f0, hf0, -⟩ := hl7.taken
        have q0 := hf0.cell (i := y * 3) (by omega)
        have q1 := hf0.cell (i := y * 3 + 1) (by omega)
        have q2 := hf0.cell (i := y * 3 + 2) (by omega)
        have p0 := hf0.frozen (y * 3)
        have p1 := hf0.frozen (y * 3 + 1)
        have p2 := hf0.frozen (y * 3 + 2)
        have HL7 := Lib.hid hl7
        clear hl7 hf0 hva hb3
        go_upto_region 13 with fail
        refine wp_abs (fun w4 => ∃ I3, Lab w0 w4 (Thing.taken I3 nb (z + 1) L need ((y : Int) - 1) y :: Thing.fn ob 4 (z + 1) (fun i => .bool (need i)) :: Thing.graph F I gb W room L :: ts)) ⟨_, HL7.out.taken_store HI.out (by omega)⟩ ?_
        rintro w4 ⟨I3, hl8⟩
        obtain ⟨vx, -, -, c2, hvx, -⟩ := hl8.taken.at (by omega) (by omega) HNE.out HI.out
        obtain ⟨ax, mx, cx, rfl, hmx, hcx⟩ := hvx.slice.parts
        have hmx3 : mx ≤ 3 := by
          have := (HWF.out.ok nd (List.mem_of_getElem? HI.out)).2.2
          have := aryN_le nd.1
          omega
        have hargs := HWF.out.args y nd HI.out
        have HL8 := Lib.hid hl8; have HVX := Lib.hid hvx; have HMX := Lib.hid hmx; have HCX := Lib.hid hcx; have HARGS := Lib.hid hargs
        clear hl8 hvx hmx hcx q0 q1 q2 p0 p1 p2 hargs
        go_wp2
        go_loopw [62] (fun i wr => ∃ k : Nat, k ≤ mx ∧ i = .int .i64 k ∧ KeepI w4 wr ∧ Lab w0 wr (Thing.fn ob 4 (z + 1) (fun i => .bool (markA need (nd.2.2.take k) i)) :: Thing.taken I3 nb (z + 1) L (markA need (nd.2.2.take k)) ((y : Int) - 1) y :: Thing.graph F I gb W room L :: ts)) (fun i _ => mx - (intOf i).toNat)
        case atStart => exact ⟨0, by omega, rfl, KeepI.refl _, by rw [List.take_zero, markA_nil]; exact HL8.out.swap⟩
        case round =>
          obtain ⟨k, hk, rfl, hki, hl⟩ := hrel
          by_cases hlt3 : k < mx
          · obtain ⟨b, off, u, rfl, hc, hu⟩ := ((HVX.out.ints hki).slice).parts' hlt3
            have hmem := List.mem_of_getElem? hu
            obtain ⟨g, rfl⟩ := Int.eq_ofNat_of_zero_le (HARGS.out u hmem).1
            have hgz : (g : Int) < (y : Int) := (HARGS.out _ hmem).2
            have hgM : (g : Int) < (z : Int) + 1 := by omega
            have hcl2 := hl.fn1.cell (i := g) (by omega)
            have hfr2 := hl.fn1.frozen g
            have HL9 := Lib.hid hl; have HU := Lib.hid hu; have HKI := Lib.hid hki
            clear hl hu hmem hki
            go_wp2
            go_roundw
            case rel =>
              have hl6 := (HL9.out.set g (.bool true)).fn_congr (g := fun i => .bool (markA need (nd.2.2.take (k + 1)) i)) (fun i _ => by rw [← markA_snoc HU.out]; by_cases e : i = g <;> simp [e])
              refine ⟨k + 1, by omega, by go_num, HKI.out.trans (KeepI.set HL9.out.fn1 (by decide) _ _), (hl6.swap.taken_congr (fun i hi => ?_) (fun i hi => ?_)).swap⟩
              · rw [← markA_snoc HU.out]
                exact if_neg (by omega)
              · rw [← markA_snoc HU.out]
                show (if i = g then true else _) = true
                split
                · rfl
                · exact hi
            case measure => simp [intOf]; omega
          · obtain rfl : k = mx := by omega
            rw [List.take_of_length_le (by rw [HMX.out]; exact Nat.le_refl _), markA_all HI.out HNE.out] at hl
            have HL9 := Lib.hid hl
            clear hl hki
            go_wp2
            go_roundw
            case rel =>
              refine ⟨(y : Int) - 1, by omega, by omega, by go_num, occStep L y need, I3, ?_, (HL9.out.swap.taken_close HI.out (fun a ha => ?_)).swap⟩
              · rw [show ((y : Int) - 1 + 1).toNat = y by omega]; exact HND2.out
              · unfold occStep argsOf
                rw [HI.out, HNE.out]
                have : (nd.2.2.any fun b => b.toNat == a.toNat) = true := List.any_eq_true.2 ⟨a, ha, by simp⟩
                simp only [Bool.true_and, this, Bool.or_true]
            case measure => simp [intOf] <;> omega
      · rw [Bool.not_eq_true] at hne
        rw [hne] at hcl
        have HL6 := Lib.hid hl; have HND2 := Lib.hid hnd; have HNE := Lib.hid hne
        clear hl hnd hi hne
        go_wp2
        go_roundw
        case rel =>
          refine ⟨(y : Int) - 1, by omega, by omega, by go_num, need, I2, ?_, (HL6.out.swap.taken_skip HNE.out).swap⟩
          rw [show ((y : Int) - 1 + 1).toNat = y by omega, ← HND2.out]
          show _ = occDown L y (occStep L y need)
          rw [occStep_no HNE.out]
        case measure => simp [intOf] <;> omega
    · obtain rfl : c = -1 := by omega
      have hnd' : need = occ L z := hnd
      subst hnd'
      have HL6 := Lib.hid hl
      clear hl hnd HL3
      obtain ⟨bb, hbb⟩ : ∃ bb, wr.heap.size = bb := ⟨_, rfl⟩
      have hl7 := HL6.out.make1 (z + 1) 3 (.int .i64 0)
      rw [hbb] at hl7
      have HL7 := Lib.hid hl7
      clear hl7 hc0 hcM hcn HL6
      go_upto_region 19 with fail
      clear hbb hmk3
      refine wp_abs (fun w1 => Lab w0 w1 (Thing.fn bb 3 (z + 1) (fun _ => .int .i64 0) :: Thing.fn ob 4 (z + 1) (fun i => .bool (occ L z i)) :: Thing.taken I2 nb (z + 1) L (occ L z) (-1) (-1) :: Thing.graph F I gb W room L :: ts)) HL7.out ?_
      clear HL7
      rintro w5 hl
      obtain ⟨MR, hMR⟩ : ∃ MR, madeRun W room L (occ L z) (fun i _ => (i : Int)) = MR := ⟨_, rfl⟩
      have h0 : MR 0 = (L, [], 0) := by rw [← hMR]; rfl
      have HMR := Lib.hid hMR; have H0 := Lib.hid h0; have HL8 := Lib.hid hl
      clear hMR h0 hl
      go_wp2
      go_loopw [75] (fun i wx => ∃ y : Nat, y ≤ z + 1 ∧ i = .int .i64 y ∧ (MR y).2.2 = 0 ∧ ∃ F4 I4, Lab w0 wx (Thing.fn bb 3 (z + 1) (fun i => .int .i64 (if i < y then (MR y).2.1.getD i 0 else 0)) :: Thing.fn ob 4 (z + 1) (fun i => .bool (occ L z i)) :: Thing.taken I2 nb (z + 1) L (occ L z) (-1) (-1) :: Thing.graph F4 I4 gb W room (MR y).1 :: ts)) (fun i _ => z + 1 - (intOf i).toNat)
      case atStart =>
        refine ⟨0, by omega, rfl, by rw [H0.out], F, I, ?_⟩
        have := HL8.out.fn_congr (g := fun i => .int .i64 (if i < 0 then (MR 0).2.1.getD i 0 else 0)) (fun i _ => by rw [if_neg (by omega)])
        rw [H0.out] at this ⊢
        exact this
      case round =>
        obtain ⟨y, hy, rfl, hmr, F4, I4, hl⟩ := hrel
        have HMR0 := Lib.hid hmr
        clear hmr
        by_cases hlt : y < z + 1
        · obtain ⟨nd, hi⟩ : ∃ nd, L[y]? = some nd := ⟨_, List.getElem?_eq_getElem (by omega)⟩
          have hmlen : (MR y).2.1.length = y := by rw [← HMR.out]; exact madeRun_len (by omega) (by rw [HMR.out]; exact HMR0.out)
          have HI := Lib.hid hi; have HML := Lib.hid hmlen
          clear hi hmlen
          cases hO : occ L z y with
          | false =>
            obtain ⟨a, b, v, m, k, q0, q1, q2⟩ := Taken.cells hl.third (t := y) (by omega)
            obtain ⟨xb, hxb⟩ : ∃ xb, wr.heap.size = xb := ⟨_, rfl⟩
            have hl2 := hl.alloc #[.int .u8 a, .int .u64 b, .slice v m k] 106
            rw [hxb] at hl2
            have HO := Lib.hid hO; have HL9 := Lib.hid hl2
            clear hl hl2 hO
            go_upto_region 22 with fail
            clear hxb q0 q1 q2
            refine wp_abs (fun w1 => Lab w0 w1 (Thing.box xb 106 #[.int .u8 a, .int .u64 b, .slice v m k] :: Thing.fn bb 3 (z + 1) (fun i => .int .i64 (if i < y then (MR y).2.1.getD i 0 else 0)) :: Thing.fn ob 4 (z + 1) (fun i => .bool (occ L z i)) :: Thing.taken I2 nb (z + 1) L (occ L z) (-1) (-1) :: Thing.graph F4 I4 gb W room (MR y).1 :: ts)) HL9.out ?_
            clear HL9
            rintro w6 hl
            have d1 := hl.fn2.cell (i := y) (by omega)
            have f1 := hl.fn2.frozen y
            have hl3 := hl.swap.set y (.int .i64 y)
            have HL9 := Lib.hid (hl3.fn_congr (g := fun i => .int .i64 (if i = y then (y : Int) else if i < y then (MR y).2.1.getD i 0 else 0)) (fun i _ => by by_cases e : i = y <;> simp [e]))
            clear hl hl3
            go_upto_region 23 with fail
            clear d1 f1
            refine wp_abs (fun w1 => Lab w0 w1 (Thing.fn bb 3 (z + 1) (fun i => .int .i64 (if i = y then (y : Int) else if i < y then (MR y).2.1.getD i 0 else 0)) :: Thing.box xb 106 #[.int .u8 a, .int .u64 b, .slice v m k] :: Thing.fn ob 4 (z + 1) (fun i => .bool (occ L z i)) :: Thing.taken I2 nb (z + 1) L (occ L z) (-1) (-1) :: Thing.graph F4 I4 gb W room (MR y).1 :: ts)) HL9.out ?_
            clear HL9
            rintro w7 hl
            have d1 := hl.fn3.cell (i := y) (by omega)
            rw [HO.out] at d1
            have HL9 := Lib.hid hl
            clear hl
            go_wp2
            go_roundw
            case rel =>
              have hM : MR (y + 1) = ((MR y).1, (MR y).2.1 ++ [(y : Int)], 0) := by rw [← HMR.out, madeRun_succ (by rw [HMR.out]; exact HMR0.out), step_skip HI.out HO.out]
              refine ⟨y + 1, by omega, by go_num, by rw [hM], F4, I4, ?_⟩
              rw [hM]
              exact (HL9.out.swap.drop).fn_congr fun i _ => by rw [made_next HML.out]
            case measure => simp [intOf]; omega
          | true =>
            obtain ⟨vx, q0, q1, q2, hl1⟩ := hl.rot3.reads (t := y) (by omega) (by omega) hO HI.out
            obtain ⟨ax, mx, cx, rfl, hmx, -⟩ := (reads_slice hl1.head).parts
            have hok := HWF.out.ok nd (List.mem_of_getElem? HI.out)
            have hmx3 : mx ≤ 3 := by
              have := hok.2.2
              have := aryN_le nd.1
              omega
            obtain ⟨xb, hxb⟩ : ∃ xb, wr.heap.size = xb := ⟨_, rfl⟩
            have hl2 := (hl1.perm (.cons _ (List.perm_middle (l₁ := [_, _])).symm)).alloc #[.int .u8 nd.1, .int .u64 nd.2.1, .slice ax mx cx] 106
            rw [hxb] at hl2
            have HO := Lib.hid hO; have HL9 := Lib.hid hl2; have HMX := Lib.hid hmx; have HOK := Lib.hid hok
            clear hl hl1 hl2 hO hmx hok
            go_upto_region 22 with fail
            clear hxb q0 q1 q2
            refine wp_abs (fun w1 => Lab w0 w1 (Thing.box xb 106 #[.int .u8 nd.1, .int .u64 nd.2.1, .slice ax mx cx] :: Thing.reads (.slice ax mx cx) nd.2.2 :: Thing.fn bb 3 (z + 1) (fun i => .int .i64 (if i < y then (MR y).2.1.getD i 0 else 0)) :: Thing.fn ob 4 (z + 1) (fun i => .bool (occ L z i)) :: Thing.taken I2 nb (z + 1) L (occ L z) (-1) (-1) :: Thing.graph F4 I4 gb W room (MR y).1 :: ts)) HL9.out ?_
            clear HL9
            rintro w6 hl
            have d1 := hl.fn3.cell (i := y) (by omega)
            have f1 := hl.fn3.frozen y
            have hl3 := hl.rot3.set y (.int .i64 y)
            have HL9 := Lib.hid (hl3.fn_congr (g := fun i => .int .i64 (if i = y then (y : Int) else if i < y then (MR y).2.1.getD i 0 else 0)) (fun i _ => by by_cases e : i = y <;> simp [e]))
            clear hl hl3
            go_upto_region 23 with fail
            clear d1 f1
            refine wp_abs (fun w1 => Lab w0 w1 (Thing.fn bb 3 (z + 1) (fun i => .int .i64 (if i = y then (y : Int) else if i < y then (MR y).2.1.getD i 0 else 0)) :: Thing.box xb 106 #[.int .u8 nd.1, .int .u64 nd.2.1, .slice ax mx cx] :: Thing.reads (.slice ax mx cx) nd.2.2 :: Thing.fn ob 4 (z + 1) (fun i => .bool (occ L z i)) :: Thing.taken I2 nb (z + 1) L (occ L z) (-1) (-1) :: Thing.graph F4 I4 gb W room (MR y).1 :: ts)) HL9.out ?_
            clear HL9
            rintro w7 hl
            have d1 := hl.fn4.cell (i := y) (by omega)
            rw [HO.out] at d1
            obtain ⟨x0, x1, x2⟩ := cells3 hl.box2
            have HL9 := Lib.hid hl
            clear hl
            by_cases hm0 : mx = 0
            · subst hm0
              have hnil : nd.2.2 = [] := List.length_eq_zero_iff.1 HMX.out
              have HNIL := Lib.hid hnil
              clear hnil
              go_wp2
              go_roundw
              case rel =>
                have hM : MR (y + 1) = ((MR y).1, (MR y).2.1 ++ [(y : Int)], 0) := by rw [← HMR.out, madeRun_succ (by rw [HMR.out]; exact HMR0.out), step_leaf HI.out HO.out HNIL.out]
                refine ⟨y + 1, by omega, by go_num, by rw [hM], F4, I4, ?_⟩
                rw [hM]
                exact (HL9.out.rot3'.drop.drop.perm (.refl _)).fn_congr fun i _ => by rw [made_next HML.out]
              case measure => simp [intOf]; omega
            · have hm1 : ((mx : Int) == 0) = false := by rw [beq_eq_false_iff_ne]; omega
              have hmk4 := run_make_row' (P := Try.prog) 33 3 (.int .i64 0) 8 Try.underlying33 Try.infoI64 rfl .i64 .i64 mx (by omega) (by omega)
              obtain ⟨ab, hab⟩ : ∃ ab, w7.heap.size = ab := ⟨_, rfl⟩
              have hl2 := HL9.out.make1 mx 3 (.int .i64 0)
              rw [hab] at hl2
              have HL10 := Lib.hid hl2
              clear hl2
              go_upto_region 25 with fail
              clear hab hmk4 d1 x0 x1 x2 HL9
              refine wp_abs (fun w1 => Lab w0 w1 (Thing.fn ab 3 mx (fun _ => .int .i64 0) :: Thing.fn bb 3 (z + 1) (fun i => .int .i64 (if i = y then (y : Int) else if i < y then (MR y).2.1.getD i 0 else 0)) :: Thing.box xb 106 #[.int .u8 nd.1, .int .u64 nd.2.1, .slice ax mx cx] :: Thing.reads (.slice ax mx cx) nd.2.2 :: Thing.fn ob 4 (z + 1) (fun i => .bool (occ L z i)) :: Thing.taken I2 nb (z + 1) L (occ L z) (-1) (-1) :: Thing.graph F4 I4 gb W room (MR y).1 :: ts)) HL10.out ?_
              clear HL10
              rintro w8 hl
              obtain ⟨x0, x1, x2⟩ := cells3 hl.box3
              have HL10 := Lib.hid hl
              clear hl
              go_wp2
              clear x0 x1 x2
              go_loopw [102] (fun i wx => ∃ k : Nat, k ≤ mx ∧ i = .int .i64 k ∧ Lab w0 wx (Thing.fn ab 3 mx (fun j => .int .i64 (if j < k then (nd.2.2.map fun a => (MR y).2.1.getD a.toNat 0).getD j 0 else 0)) :: Thing.fn bb 3 (z + 1) (fun i => .int .i64 (if i = y then (y : Int) else if i < y then (MR y).2.1.getD i 0 else 0)) :: Thing.box xb 106 #[.int .u8 nd.1, .int .u64 nd.2.1, .slice ax mx cx] :: Thing.reads (.slice ax mx cx) nd.2.2 :: Thing.fn ob 4 (z + 1) (fun i => .bool (occ L z i)) :: Thing.taken I2 nb (z + 1) L (occ L z) (-1) (-1) :: Thing.graph F4 I4 gb W room (MR y).1 :: ts)) (fun i _ => mx - (intOf i).toNat)
              case atStart => exact ⟨0, by omega, rfl, HL10.out.fn_congr fun i _ => by simp⟩
              case round =>
                obtain ⟨k, hk, rfl, hl⟩ := hrel
                by_cases hlt3 : k < mx
                · have hsl : SliceOf wr .i64 (.slice ax mx cx) nd.2.2 := reads_slice hl.fourth
                  obtain ⟨b, off, u, rfl, hc, hu⟩ := hsl.parts' hlt3
                  obtain ⟨g, rfl⟩ := Int.eq_ofNat_of_zero_le (HWF.out.args y nd HI.out u (List.mem_of_getElem? hu)).1
                  have hgy : (g : Int) < (y : Int) := (HWF.out.args y nd HI.out _ (List.mem_of_getElem? hu)).2
                  have hgz : (g : Int) < (z : Int) + 1 := by omega
                  have d2 := hl.fn2.cell (i := g) (by omega)
                  rw [if_neg (by omega), if_pos (by omega)] at d2
                  have d3 := hl.fn1.cell hlt3
                  have d4 := hl.fn1.frozen k
                  have hval : (nd.2.2.map fun a => (MR y).2.1.getD a.toNat 0).getD k 0 = (MR y).2.1.getD g 0 := by
                    rw [List.getD_eq_getElem?_getD, List.getElem?_map, hu]; rfl
                  have HL11 := Lib.hid hl; have HV := Lib.hid hval
                  clear hl hsl hu hval
                  go_wp2
                  go_roundw
                  case rel =>
                    refine ⟨k + 1, by omega, by go_num, (HL11.out.set k (.int .i64 ((MR y).2.1.getD g 0))).fn_congr fun j _ => ?_⟩
                    by_cases e : j = k
                    · subst e; rw [if_pos rfl, if_pos (by omega), HV.out]
                    · rw [if_neg e]
                      by_cases e2 : j < k
                      · rw [if_pos e2, if_pos (by omega)]
                      · rw [if_neg e2, if_neg (by omega)]
                  case measure => simp [intOf]; omega
                · obtain rfl : k = mx := by omega
                  have hsl2 : SliceOf wr .i64 (.slice (some ⟨ab, 0, none⟩) k k) (nd.2.2.map fun a => (MR y).2.1.getD a.toNat 0) := slice_of_row hl.fn1 (by rw [List.length_map]; exact HMX.out) (fun j hj => by rw [if_pos hj])
                  have hg7 := hl.rot7
                  obtain ⟨R2, hR2⟩ : ∃ R2, simpR W room (MR y).1 nd.1 (nd.2.2.map fun a => (MR y).2.1.getD a.toNat 0) = R2 := ⟨_, rfl⟩
                  have hcall := sapp_any hg7.gr nd.1 (by have := HOK.out.1; omega) (nd.2.2.map fun a => (MR y).2.1.getD a.toNat 0) _ hsl2
                  rw [hR2] at hcall
                  obtain ⟨x0, x1, x2⟩ := cells3 hl.box3
                  have HG7 := Lib.hid hg7; have HC := Lib.hid hcall; have HR2 := Lib.hid hR2
                  clear hl hsl2 hg7 hcall hR2 x1 x2
                  go_wp2_with fail
                  go_at_call 26
                  refine HC.out.mono ?_
                  intro e w9 hp
                  obtain ⟨F5, I5, rfl, hl9⟩ := HG7.out.gpost hp
                  have HL12 := Lib.hid hl9
                  clear hp hl9 x0
                  have hstep : MR (y + 1) = if R2.2.2 = 0 then (R2.1, (MR y).2.1 ++ [(R2.2.1 : Int)], 0) else (R2.1, (MR y).2.1, R2.2.2) := by
                    rw [← HMR.out, madeRun_succ (by rw [HMR.out]; exact HMR0.out), step_app HI.out HO.out (fun e => by have := HMX.out; rw [e] at this; simp at this; omega) rfl, HMR.out, HR2.out]
                  have HST := Lib.hid hstep
                  clear hstep
                  obtain ⟨L6, t6, e6⟩ := R2
                  by_cases he : e6 = 0
                  · subst he
                    have hM : MR (y + 1) = (L6, (MR y).2.1 ++ [(t6 : Int)], 0) := HST.out.trans (if_pos rfl)
                    have e1 : (((0 : Nat) : Int) != 0) = false := by simp
                    have d2 := HL12.out.fn3.cell (i := y) (by omega)
                    have f2 := HL12.out.fn3.frozen y
                    have HM := Lib.hid hM
                    clear hM
                    go_wp2
                    go_roundw
                    case rel =>
                      refine ⟨y + 1, by omega, by go_num, by rw [HM.out], F5, I5, ?_⟩
                      rw [HM.out]
                      exact ((HL12.out.sub (.cons_cons _ (.cons _ (.cons_cons _ (.cons _ (.cons _ (.cons_cons _ (.cons_cons _ (List.Sublist.refl _))))))))).back4.set y (.int .i64 t6)).fn_congr fun i _ => by rw [made_next HML.out]; by_cases e : i = y <;> simp [e]
                    case measure => simp [intOf]; omega
                  · have e1 : ((e6 : Int) != 0) = true := by rw [bne_iff_ne]; omega
                    have hM : MR (y + 1) = (L6, (MR y).2.1, e6) := HST.out.trans (if_neg he)
                    have hend : MR (z + 1) = (L6, (MR y).2.1, e6) := by
                      rw [← hM, ← HMR.out]
                      exact madeRun_stop (by rw [HMR.out, hM]; exact he) (by omega)
                    have hRR : R = (L6, 0, e6) := by
                      rw [← HR.out]
                      unfold madeEnd
                      rw [HMR.out, hend]
                      exact if_neg he
                    subst hRR
                    clear hM hend
                    go_wp2
                    go_ret2
                    exact ⟨F5, I5, rfl, HL12.out.sub (.cons_cons _ (.cons _ (.cons _ (.cons _ (.cons _ (.cons _ (.cons _ (List.Sublist.refl _))))))))⟩
        · obtain rfl : y = z + 1 := by omega
          have d1 := hl.fn1.cell (i := z) (by omega)
          rw [if_pos (by omega)] at d1
          have hnn : 0 ≤ (MR (z + 1)).2.1.getD z 0 := by
            have := madeRun_nonneg (W := W) (room := room) (L0 := L) (O := occ L z) (lf := fun i _ => (i : Int)) (fun i _ => by omega) (z + 1)
            rw [HMR.out] at this
            rw [List.getD_eq_getElem?_getD]
            cases hq : (MR (z + 1)).2.1[z]? with
            | none => simp
            | some q => exact this q (List.mem_of_getElem? hq)
          obtain ⟨q, hq⟩ := Int.eq_ofNat_of_zero_le hnn
          rw [hq] at d1
          have hRR : R = ((MR (z + 1)).1, q, 0) := by
            rw [← HR.out]
            unfold madeEnd
            rw [HMR.out, if_pos HMR0.out, hq]; rfl
          subst hRR
          have HL9 := Lib.hid hl
          clear hl hq hnn
          go_wp2
          go_ret2
          exact ⟨F4, I4, rfl, HL9.out.drop.drop.drop⟩
end
/-- Simple. -/
theorem Lab.simple {w0 wr : World} {ts : List Thing} {F I : List Nat} {gb W room : Nat} {L : List PNode} (h : Lab w0 wr (Thing.graph F I gb W room L :: ts)) (t : Int) {R : List PNode × Nat × Nat} (hR : simpleR W room L t = R) :
    Calls Try.prog 30 #[.pointer (some ⟨gb, 0, none⟩), .int .i64 t] wr fun e w' => ∃ F' I', e = .returned (.tuple #[.int .i64 R.2.1, .int .i64 R.2.2]) ∧ Lab w0 w' (Thing.graph F' I' gb W room R.1 :: ts) := by
  subst hR
  unfold simpleR
  by_cases ht : 0 ≤ t ∧ t < (L.length : Int)
  · obtain ⟨z, rfl⟩ := Int.eq_ofNat_of_zero_le ht.1
    rw [if_pos ht, Int.toNat_natCast]
    exact simple_in h z (by omega)
  · rw [if_neg ht]
    refine (simple_out h t ht).mono ?_
    rintro e w' ⟨rfl, rfl⟩
    exact ⟨F, I, rfl, h⟩
end Go.Proofs.Ytcpgiadhmmmafaa
