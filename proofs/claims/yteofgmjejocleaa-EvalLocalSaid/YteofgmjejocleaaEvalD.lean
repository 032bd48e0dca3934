/- The reference's values of terms. -/
import Derived.Test.YteofgmjejocleaaEvalC
namespace Go.Proofs.Yteofgmjejocleaa
open Go.RowKit Go.Maps
set_option maxHeartbeats 800000

def Thing.nums (v : Value) (xs : List Int) : Thing := Thing.row 25 1 v xs.length (xs.map (Value.int .u64))
section
variable {w0 wr w' : World} {ts : List Thing}
theorem Lab.nums {v : Value} {xs : List Int} (h : Lab w0 wr (Thing.nums v xs :: ts)) : OwnInts wr 0 25 .u64 v xs := h.head
theorem Lab.nums2 {x : Thing} {v : Value} {xs : List Int} (h : Lab w0 wr (x :: Thing.nums v xs :: ts)) : OwnInts wr 0 25 .u64 v xs := h.second
theorem Lab.nums3 {x y : Thing} {v : Value} {xs : List Int} (h : Lab w0 wr (x :: y :: Thing.nums v xs :: ts)) : OwnInts wr 0 25 .u64 v xs := h.third
theorem Lab.new_nums {v : Value} {xs : List Int} (h : Lab w0 wr ts) (hb : Below wr.heap.size wr w') (hv : OwnInts w' wr.heap.size 25 .u64 v xs) : Lab w0 w' (Thing.nums v xs :: ts) := h.new_row hb hv
theorem Lab.nil_nums (h : Lab w0 wr ts) : Lab w0 wr (Thing.nums (.slice none 0 0) [] :: ts) := h.new_nums (Below.refl _ _) (OwnInts.nil _ _ _ _)
theorem Lab.grown_nums {v : Value} {xs : List Int} {a' : Option Addr} {c' m : Nat} {q : Int} (h : Lab w0 wr (Thing.nums v xs :: ts)) (hown : OwnInts w' 0 25 .u64 (.slice a' m c') (xs ++ [q])) (ht : Touch v.ownBlock.toList wr w') (hb : ∀ b, (Value.slice a' m c').ownBlock = some b → v.ownBlock = some b ∨ wr.heap.size ≤ b) :
    Lab w0 w' (Thing.nums (.slice a' m c') (xs ++ [q]) :: ts) := by
  refine h.turn (s' := Thing.nums (.slice a' m c') (xs ++ [q])) ht hown (fun k hk => ?_) (fun k hk => by simp [Thing.nums, Thing.row] at hk) (fun k hk => ?_)
  · have hk' : (Value.slice a' m c').ownBlock = some k := by simpa [Thing.nums, Thing.row] using hk
    exact (hb k hk').imp (fun e => by simp [Thing.nums, Thing.row, e]) id
  · rcases hk with hk | hk
    · exact (World.ownsRow.lt hown k (by simpa [Thing.nums, Thing.row] using hk)).2
    · simp [Thing.nums, Thing.row] at hk
end
theorem ownsRow_base {w : World} {base E size n : Nat} {v : Value} {xs : List Value} (h : w.ownsRow 0 E size v n xs) (hb : ∀ k, v.ownBlock = some k → base ≤ k) : w.ownsRow base E size v n xs := by
  refine ⟨h.1, ?_⟩
  rcases h.2 with hn | ⟨g, cap, cur, rfl, hg, r⟩
  · exact .inl hn
  · exact .inr ⟨g, cap, cur, rfl, hb g rfl, r⟩
theorem Lab.nums_base {w0 wr : World} {ts : List Thing} {v : Value} {xs : List Int} (h : Lab w0 wr (Thing.nums v xs :: ts)) : OwnInts wr w0.heap.size 25 .u64 v xs :=
  ownsRow_base h.nums fun k hk => h.low (Thing.nums v xs) (by simp) k (by simp [Thing.nums, Thing.row, hk])
theorem Lab.ints_base {w0 wr : World} {ts : List Thing} {v : Value} {xs : List Int} (h : Lab w0 wr (Thing.ints v xs :: ts)) : OwnInts wr w0.heap.size 3 .i64 v xs :=
  ownsRow_base h.ints fun k hk => h.low (Thing.ints v xs) (by simp) k (by simp [Thing.ints, Thing.row, hk])
theorem valsL_take {W : Nat} {vals : List Int} {L : List PNode} {k : Nat} {n : PNode} (hk : L[k]? = some n) : valsL W vals (L.take k) ++ [valN W vals (valsL W vals (L.take k)) n] = valsL W vals (L.take (k + 1)) := by
  rw [List.take_add_one, hk]
  exact (valsL_snoc _ _ _ _).symm
set_option maxRecDepth 100000 in
theorem rvalues_any {w : World} {F I : List Nat} {rb W room : Nat} {L : List PNode} (h : RGr w 0 F I rb W room L) (vals : List Int) (vv : Value) (hvv : SliceOf w .u64 vv vals) (hvl : vals.length ≤ 9223372036854775807) (hvu : U64s vals) :
    Calls Try.prog 41 #[.pointer (some ⟨rb, 0, none⟩), vv] w fun e w' => ∃ a m c, e = .returned (.slice a m c) ∧ OwnInts w' w.heap.size 25 .u64 (.slice a m c) (valsL W vals L) ∧ Below w.heap.size w w' := by
  obtain ⟨av, nv, cv, rfl, hlv, hcv⟩ := hvv.parts
  have hl0 := (Lab.nil (Below.refl w.heap.size w)).nil_nums
  have hlen : L.length ≤ 1048576 := by have := h.len; have := h.r2; omega
  have hnv : nv ≤ 9223372036854775807 := by omega
  have HL0 := Lib.hid hl0; have HR := Lib.hid h; have HCV := Lib.hid hcv; have HLV := Lib.hid hlv; have HVU := Lib.hid hvu
  clear hl0 h hcv hlv hvu hvl hvv
  go_enter Try.func41, Try.ntmps41
  go_wp2
  go_loopw [5, 6] (fun v i wr => ∃ k : Nat, k ≤ L.length ∧ i = .int .i64 k ∧ ∃ a m c, v = .slice a m c ∧ Lab w wr [Thing.nums (.slice a m c) (valsL W vals (L.take k))]) (fun _ i _ => L.length - (intOf i).toNat)
  case atStart => exact ⟨0, by omega, rfl, _, _, _, rfl, HL0.out⟩
  case round =>
    obtain ⟨k, hk, rfl, a, m, c, rfl, hl⟩ := hrel
    have hrg := HR.out.later hl.below
    obtain ⟨a0, cap0, c0, c1, c2, -⟩ := hrg.parts
    by_cases hlt : k < L.length
    · obtain ⟨nd, hi⟩ : ∃ nd, L[k]? = some nd := ⟨_, List.getElem?_eq_getElem hlt⟩
      obtain ⟨g, cap, va, c2', d0, d1, d2, hva⟩ := HR.out.node hi
      replace c2' := cell_later hl.below c2'
      replace d0 := cell_later hl.below d0
      replace d1 := cell_later hl.below d1
      replace d2 := cell_later hl.below d2
      rw [c2] at c2'
      simp only [Option.some.injEq, Value.slice.injEq, true_and] at c2'
      obtain ⟨rfl, rfl⟩ := c2'
      have hok := HR.out.wf.ok nd (List.mem_of_getElem? hi)
      obtain ⟨ax, mx, cx, rfl, hmx, hcx⟩ := hva.slice.parts
      obtain ⟨op, num, xs⟩ := nd
      simp only at d0 d1 hva hcx hmx
      have hop : op ≤ 21 := hok.1
      have hnum : num ≤ 18446744073709551615 := hok.2.1
      have hm3 : mx ≤ 3 := by have := hok.2.2; have := aryN_le op; simp only at *; omega
      obtain ⟨p, hp⟩ : ∃ p, wr.heap.size = p := ⟨_, rfl⟩
      have hl1 := hl.alloc #[.int .u8 op, .int .u64 num, .slice ax mx cx] 62
      rw [hp] at hl1
      have HL1 := Lib.hid hl1; have HVA := Lib.hid hva; have HMX := Lib.hid hmx; have HI := Lib.hid hi
      clear hl hl1 hva hcx hmx hrg hi hok
      go_upto_region 6 with fail
      clear hp c0 c1 c2 d0 d1 d2
      refine wp_abs (fun w1 => Lab w w1 [Thing.box p 62 #[.int .u8 op, .int .u64 num, .slice ax mx cx], Thing.nums (.slice a m c) (valsL W vals (L.take k))]) HL1.out ?_
      rintro w1 hl1
      have HL2 := Lib.hid hl1
      obtain ⟨d0, d1, d2⟩ := cells3 hl1.box1
      obtain ⟨a1, cap1, c0, c1, c2, -⟩ := (HR.out.later hl1.below).parts
      clear hl1 HL1
      obtain ⟨R, hR⟩ : ∃ R, valN W vals (valsL W vals (L.take k)) (op, num, xs) = R := ⟨_, rfl⟩
      have HRR := Lib.hid hR
      have hargs := HR.out.wf.args k _ HI.out
      have hok := HR.out.wf.ok _ (List.mem_of_getElem? HI.out)
      have HARGS := Lib.hid hargs; have HOK := Lib.hid hok
      clear hR hargs hok
      go_upto_block 2 with fail
      go_cut [8] (fun r wx => r = .int .u64 R ∧ Lab w wx [Thing.nums (.slice a m c) (valsL W vals (L.take k))])
      case first =>
        by_cases e0 : op = 0
        · have ht : ((op : Int) == 0) = true := by rw [beq_iff_eq]; omega
          have hr : R = num := by rw [← HRR.out]; exact valN_const e0
          subst hr
          clear e0
          go_wp2
          go_meet
          exact ⟨rfl, HL2.out.drop⟩
        have ht : ((op : Int) == 0) = false := by rw [beq_eq_false_iff_ne]; omega
        by_cases e1 : op = 1
        · have ht1 : ((op : Int) == 1) = true := by rw [beq_iff_eq]; omega
          by_cases hlt2 : num < nv
          · have hle : ((num : Int) < (nv : Int)) := by omega
            obtain ⟨vb', off, q, rfl, hq, hqv⟩ := HCV.out num hlt2
            have hq0 : 0 ≤ q ∧ q ≤ 18446744073709551615 := HVU.out q (List.mem_of_getElem? hqv)
            have hr : R = ((q.toNat % 2 ^ W : Nat) : Int) := by rw [← HRR.out, valN_var (n := (op, num, xs)) e1 (by rw [HLV.out]; exact hlt2)]; rw [List.getD_eq_getElem?_getD, hqv]; rfl
            obtain ⟨qn, rfl⟩ := Int.eq_ofNat_of_zero_le hq0.1
            have ha := and_mask qn W (by omega) HR.out.w1 HR.out.w2
            rw [Int.toNat_natCast] at hr
            rw [← hr] at ha
            have hmk : ∀ wx, Calls Try.prog 19 #[.int .i64 W] wx fun e w' => e = .returned (.int .u64 ((2 ^ W - 1 : Nat) : Int)) ∧ w' = wx := fun wx => by
              refine (rmask_any W HR.out.w1 HR.out.w2 wx).mono ?_
              rintro e w' ⟨rfl, rfl⟩
              exact ⟨rfl, rfl⟩
            have k4 := cell_later HL2.out.below hq
            obtain ⟨MM, hMM⟩ : ∃ MM : Nat, 2 ^ W - 1 = MM := ⟨_, rfl⟩
            rw [hMM] at ha hmk
            have HMK := Lib.hid hmk
            clear hq hqv hq0 hr e1 e0 hmk hMM
            go_wp2
            go_quiet ((go_at_call 19; refine Calls.quiet_of_same (HMK.out _)))
            go_wp2
            go_meet
            exact ⟨rfl, HL2.out.drop.drewN _⟩
          · have hle : ¬ ((num : Int) < (nv : Int)) := by omega
            have hr : R = 0 := by rw [← HRR.out]; exact valN_no e1 (by rw [HLV.out]; exact hlt2)
            subst hr
            clear e1 e0 hlt2
            go_wp2
            go_meet
            exact ⟨rfl, HL2.out.drop⟩
        · have ht1 : ((op : Int) == 1) = false := by rw [beq_eq_false_iff_ne]; omega
          have hl3 := HL2.out.nil_nums
          have HL3 := Lib.hid hl3
          clear hl3
          go_wp2
          go_loopw [9, 10] (fun v i wr => ∃ j : Nat, j ≤ mx ∧ i = .int .i64 j ∧ ∃ a1 m1 k1, v = .slice a1 m1 k1 ∧ Lab w wr [Thing.nums (.slice a1 m1 k1) ((xs.take j).map fun a => (valsL W vals (L.take k)).getD a.toNat 0), Thing.box p 62 #[.int .u8 op, .int .u64 num, .slice ax mx cx], Thing.nums (.slice a m c) (valsL W vals (L.take k))]) (fun _ i _ => mx - (intOf i).toNat)
          case atStart => exact ⟨0, by omega, rfl, _, _, _, rfl, HL3.out⟩
          case round =>
            obtain ⟨j, hj, rfl, a1, m1, k1, rfl, hl⟩ := hrel
            obtain ⟨r0, r1, r2⟩ := cells3 hl.box2
            by_cases hlt3 : j < mx
            · obtain ⟨b, off, u, rfl, hc, hu⟩ := HVA.out.slice.parts' hlt3
              have hc1 := cell_later hl.below hc
              have hmem := List.mem_of_getElem? hu
              obtain ⟨g, rfl⟩ := Int.eq_ofNat_of_zero_le (HARGS.out u hmem).1
              have hgk : (g : Int) < (k : Int) := (HARGS.out _ hmem).2
              have hacc := hl.nums3
              have hlacc : (valsL W vals (L.take k)).length = k := by rw [valsL_len, List.length_take]; omega
              obtain ⟨b2, off2, q2, e2, hq2, hqv2⟩ := hacc.slice.parts' (i := g) (by obtain ⟨_, _, _, e, hl', _⟩ := hacc.slice; simp only [Value.slice.injEq] at e; omega)
              subst e2
              have hgm : (g : Int) < (m : Int) := by obtain ⟨_, _, _, e, hl', _⟩ := hacc.slice; simp only [Value.slice.injEq] at e; omega
              obtain ⟨X, hX⟩ : ∃ X, (xs.take j).map (fun a => (valsL W vals (L.take k)).getD a.toNat 0) = X := ⟨_, rfl⟩
              have hlx : X.length ≤ 999999999 := by rw [← hX, List.length_map, List.length_take]; omega
              have hs : X ++ [q2] = (xs.take (j + 1)).map fun a => (valsL W vals (L.take k)).getD a.toNat 0 := by
                rw [← take_snoc' hu, List.map_append, hX]
                simp [hqv2]
              rw [hX] at hl
              have hx := hl.nums
              have HS := Lib.hid hs; have HL4 := Lib.hid hl
              clear hl hs hacc hlacc hmem hu hc hqv2 hX
              go_wp2_with (at_builtin; refine wpList_append1_sep (P := Try.prog) 29 25 .u64 0 wr (.slice a1 m1 k1) X q2 8 hx _ _ rfl rfl Try.underlying29 Try.infoU64 (by decide) rfl rfl hlx (Nat.zero_le _) ?_; intro a2 c2 w2 hown2 ht2 hb2)
              have hl5 := HL4.out.grown_nums hown2 ht2 hb2
              rw [HS.out] at hl5
              have HL5 := Lib.hid hl5
              clear hl5 hown2 ht2 hb2 hx
              go_wp2
              go_roundw
              case rel => exact ⟨j + 1, by omega, by go_num, _, _, _, rfl, HL5.out⟩
              case measure => simp [intOf]; omega
            · obtain rfl : j = mx := by omega
              rw [show xs.take j = xs from List.take_of_length_le (by rw [HMX.out]; exact Nat.le_refl _)] at hl
              have hs := hl.nums.slice
              have hu : U64s (xs.map fun a => (valsL W vals (L.take k)).getD a.toNat 0) := by
                intro y hy
                obtain ⟨a, ha, rfl⟩ := List.mem_map.1 hy
                have h1 := HARGS.out a ha
                have e : val W vals (L.take k) a.toNat = val W vals L a.toNat := (val_prefix (List.take_prefix k L) (by rw [List.length_take]; omega)).symm
                show 0 ≤ val W vals (L.take k) a.toNat ∧ val W vals (L.take k) a.toNat ≤ _
                rw [e]
                exact val_u64 HR.out.w1 HR.out.w2 vals HR.out.wf a.toNat
              have hap : ∀ wx, SliceOf wx .u64 (.slice a1 m1 k1) (xs.map fun a => (valsL W vals (L.take k)).getD a.toNat 0) → Calls Try.prog 48 #[.int .u8 op, .int .i64 W, .slice a1 m1 k1] wx fun e w' => e = .returned (.tuple #[.int .u64 R, .int .i64 0]) ∧ w' = wx := fun wx hs => by
                have h := rapply_any op W (by omega) (by omega) _ _ wx hs hu (by rw [List.length_map, HMX.out]; omega)
                refine h.mono ?_
                rintro e w' ⟨rfl, rfl⟩
                have hr : wI op W (xs.map fun a => (valsL W vals (L.take k)).getD a.toNat 0) = R := by rw [← HRR.out]; exact (valN_app (n := (op, num, xs)) e0 e1).symm
                have he : wE op W (xs.map fun a => (valsL W vals (L.take k)).getD a.toNat 0).length = 0 := by
                  rw [List.length_map]
                  exact wE_zero HR.out.w1 HR.out.w2 (by omega) hop HOK.out.2.2.symm
                rw [hr, he]
                exact ⟨rfl, rfl⟩
              have hap2 : ∀ n, Calls Try.prog 48 #[.int .u8 op, .int .i64 W, .slice a1 m1 k1] (wr.drewN n) fun e w' => e = .returned (.tuple #[.int .u64 R, .int .i64 0]) ∧ w' = wr.drewN n := fun n => hap _ (hs.below (below_drewN (Below.refl _ _) n))
              obtain ⟨a4, cap4, t0, t1, t2, -⟩ := (HR.out.later hl.below).parts
              have HL4 := Lib.hid hl; have HAP := Lib.hid hap2
              clear hl hs hu hap hap2 c0 c1 c2 d0 d1 d2
              go_wp2
              go_quiet ((go_at_call 48; refine Calls.quiet_of_same (HAP.out _)))
              go_wp2
              go_meet
              exact ⟨rfl, HL4.out.drop.drop.drewN _⟩
      case rest =>
        obtain ⟨rfl, hl⟩ := hcut
        have hx := hl.nums
        have hlx : (valsL W vals (L.take k)).length ≤ 999999999 := by rw [valsL_len, List.length_take]; omega
        have hs : valsL W vals (L.take k) ++ [R] = valsL W vals (L.take (k + 1)) := by rw [← HRR.out]; exact valsL_take HI.out
        have HS := Lib.hid hs; have HL4 := Lib.hid hl
        clear hl hs
        go_wp2_with (at_builtin; refine wpList_append1_sep (P := Try.prog) 29 25 .u64 0 wc (.slice a m c) (valsL W vals (L.take k)) R 8 hx _ _ rfl rfl Try.underlying29 Try.infoU64 (by decide) rfl rfl hlx (Nat.zero_le _) ?_; intro a2 c2 w2 hown2 ht2 hb2)
        have hl5 := HL4.out.grown_nums hown2 ht2 hb2
        rw [HS.out] at hl5
        have HL5 := Lib.hid hl5
        clear hl5 hown2 ht2 hb2 hx
        go_wp2
        go_roundw
        case rel => exact ⟨k + 1, by omega, by go_num, _, _, _, rfl, HL5.out⟩
        case measure => simp [intOf]; omega
    · obtain rfl : k = L.length := by omega
      have HL := Lib.hid hl
      clear hl hrg c0 c1
      go_wp2
      go_ret
      rw [List.take_length] at HL
      exact ⟨_, _, _, rfl, HL.out.nums_base, HL.out.below⟩
end Go.Proofs.Yteofgmjejocleaa
