/- EvalD, EvalE, EvalF, MapR, Sets, SupA: joined by wip/bundle.py. -/
import Derived.Test.YteamnchoddegpaaGreatDoorB1
import Derived.Test.YteamnchoddegpaaGreatDoorB2
import Derived.Test.YteamnchoddegpaaGreatDoorB3
import Derived.Test.YteamnchoddegpaaGreatDoorB4
import Derived.Test.YteamnchoddegpaaGreatDoorB5
import Derived.Test.YteamnchoddegpaaGreatDoorB6
import Derived.Test.YteamnchoddegpaaGreatDoorB7
import Derived.Test.YteamnchoddegpaaGreatDoorB8
import Derived.Test.YteamnchoddegpaaGreatDoorB9
import Derived.Maps.RangeRun
import Derived.Maps.RangeWalk
import Derived.Below
import Derived.WalkSmall
import Derived.Deep.Upon
import Derived.WalkMore
import Derived.OrdersHeld
import Derived.StillTail
import Derived.Deep.RegionHeld3
import Derived.Laws.EntriesVeiled
namespace Go.Proofs.YteamnchoddegpaaGreatDoor
open Go.RowKit Go.Maps
set_option maxHeartbeats 800000
def Thing.nums (v : Value) (xs : List Int) : Thing := Thing.row 43 1 v xs.length (xs.map (Value.int .u64))
section
variable {w0 wr w' : World} {ts : List Thing}
theorem Lab.nums {v : Value} {xs : List Int} (h : Lab w0 wr (Thing.nums v xs :: ts)) : OwnInts wr 0 43 .u64 v xs := h.head
theorem Lab.nums2 {x : Thing} {v : Value} {xs : List Int} (h : Lab w0 wr (x :: Thing.nums v xs :: ts)) : OwnInts wr 0 43 .u64 v xs := h.second
theorem Lab.nums3 {x y : Thing} {v : Value} {xs : List Int} (h : Lab w0 wr (x :: y :: Thing.nums v xs :: ts)) : OwnInts wr 0 43 .u64 v xs := h.third
theorem Lab.new_nums {v : Value} {xs : List Int} (h : Lab w0 wr ts) (hb : Below wr.heap.size wr w') (hv : OwnInts w' wr.heap.size 43 .u64 v xs) : Lab w0 w' (Thing.nums v xs :: ts) := h.new_row hb hv
theorem Lab.nil_nums (h : Lab w0 wr ts) : Lab w0 wr (Thing.nums (.slice none 0 0) [] :: ts) := h.new_nums (Below.refl _ _) (OwnInts.nil _ _ _ _)
theorem Lab.grown_nums {v : Value} {xs : List Int} {a' : Option Addr} {c' m : Nat} {q : Int} (h : Lab w0 wr (Thing.nums v xs :: ts)) (hown : OwnInts w' 0 43 .u64 (.slice a' m c') (xs ++ [q])) (ht : Touch v.ownBlock.toList wr w') (hb : ∀ b, (Value.slice a' m c').ownBlock = some b → v.ownBlock = some b ∨ wr.heap.size ≤ b) :
    Lab w0 w' (Thing.nums (.slice a' m c') (xs ++ [q]) :: ts) := by
  refine h.turn (s' := Thing.nums (.slice a' m c') (xs ++ [q])) ht hown (fun k hk => ?_) (fun k hk => by simp [Thing.nums, Thing.row] at hk) (fun k hk => ?_)
  · have hk' : (Value.slice a' m c').ownBlock = some k := by simpa [Thing.nums, Thing.row] using hk
    exact (hb k hk').imp (fun e => by simp [Thing.nums, Thing.row, e]) id
  · rcases hk with hk | hk
    · exact (World.ownsRow.lt hown k (by simpa [Thing.nums, Thing.row] using hk)).2
    · simp [Thing.nums, Thing.row] at hk
end
theorem ownsRow_base {w : World} {base E size n : Nat} {v : Value} {xs : List Value} (h : w.ownsRow 0 E size v n xs) (hb : ∀ k, v.ownBlock = some k → base ≤ k) : w.ownsRow base E size v n xs := by
  refine ⟨h.1, ?_⟩
  rcases h.2 with hn | ⟨g, cap, cur, rfl, hg, r⟩
  · exact .inl hn
  · exact .inr ⟨g, cap, cur, rfl, hb g rfl, r⟩
theorem Lab.nums_base {w0 wr : World} {ts : List Thing} {v : Value} {xs : List Int} (h : Lab w0 wr (Thing.nums v xs :: ts)) : OwnInts wr w0.heap.size 43 .u64 v xs :=
  ownsRow_base h.nums fun k hk => h.low (Thing.nums v xs) (by simp) k (by simp [Thing.nums, Thing.row, hk])
theorem valsL_take {W : Nat} {vals : List Int} {L : List PNode} {k : Nat} {n : PNode} (hk : L[k]? = some n) : valsL W vals (L.take k) ++ [valN W vals (valsL W vals (L.take k)) n] = valsL W vals (L.take (k + 1)) := by
  rw [List.take_add_one, hk]
  exact (valsL_snoc _ _ _ _).symm
set_option maxRecDepth 100000 in
theorem rvalues_any {w : World} {F I : List Nat} {rb W room : Nat} {L : List PNode} (h : RGr w 0 F I rb W room L) (vals : List Int) (vv : Value) (hvv : SliceOf w .u64 vv vals) (hvl : vals.length ≤ 9223372036854775807) (hvu : U64s vals) :
    Calls Tryz.prog 73 #[.pointer (some ⟨rb, 0, none⟩), vv] w fun e w' => ∃ a m c, e = .returned (.slice a m c) ∧ OwnInts w' w.heap.size 43 .u64 (.slice a m c) (valsL W vals L) ∧ Below w.heap.size w w' := by
  obtain ⟨av, nv, cv, rfl, hlv, hcv⟩ := hvv.parts
  have hl0 := (Lab.nil (Below.refl w.heap.size w)).nil_nums
  have hlen : L.length ≤ 1048576 := by have := h.len; have := h.r2; omega
  have hnv : nv ≤ 9223372036854775807 := by omega
  have HL0 := Lib.hid hl0; have HR := Lib.hid h; have HCV := Lib.hid hcv; have HLV := Lib.hid hlv; have HVU := Lib.hid hvu
  clear hl0 h hcv hlv hvu hvl hvv
  go_enter Tryz.func73, Tryz.ntmps73
  go_wp2
  go_loopw [5, 6] (fun v i wr => ∃ k : Nat, k ≤ L.length ∧ i = .int .i64 k ∧ ∃ a m c, v = .slice a m c ∧ Lab w wr [Thing.nums (.slice a m c) (valsL W vals (L.take k))]) (fun _ i _ => L.length - (intOf i).toNat)
  case atStart => exact ⟨0, by omega, rfl, _, _, _, rfl, HL0.out⟩
  case round =>
    obtain ⟨k, hk, rfl, a, m, c, rfl, hl⟩ := hrel
    have hrg := HR.out.later hl.below
    obtain ⟨a0, cap0, c0, c1, c2, -⟩ := hrg.parts
    by_cases hlt : k < L.length
    · obtain ⟨nd, hi⟩ : ∃ nd, L[k]? = some nd := ⟨_, List.getElem?_eq_getElem hlt⟩
      obtain ⟨g, cap, va, c2', d0, d1, d2, hva⟩ := HR.out.node hi
      replace c2' := cell_later hl.below c2'
      replace d0 := cell_later hl.below d0
      replace d1 := cell_later hl.below d1
      replace d2 := cell_later hl.below d2
      rw [c2] at c2'
      simp only [Option.some.injEq, Value.slice.injEq, true_and] at c2'
      obtain ⟨rfl, rfl⟩ := c2'
      have hok := HR.out.wf.ok nd (List.mem_of_getElem? hi)
      obtain ⟨ax, mx, cx, rfl, hmx, hcx⟩ := hva.slice.parts
      obtain ⟨op, num, xs⟩ := nd
      simp only at d0 d1 hva hcx hmx
      have hop : op ≤ 21 := hok.1
      have hnum : num ≤ 18446744073709551615 := hok.2.1
      have hm3 : mx ≤ 3 := by have := hok.2.2; have := aryN_le op; simp only at *; omega
      obtain ⟨p, hp⟩ : ∃ p, wr.heap.size = p := ⟨_, rfl⟩
      have hl1 := hl.alloc #[.int .u8 op, .int .u64 num, .slice ax mx cx] 88
      rw [hp] at hl1
      have HL1 := Lib.hid hl1; have HVA := Lib.hid hva; have HMX := Lib.hid hmx; have HI := Lib.hid hi
      clear hl hl1 hva hcx hmx hrg hi hok
      go_upto_region 6 with fail
      clear hp c0 c1 c2 d0 d1 d2
      refine wp_abs (fun w1 => Lab w w1 [Thing.box p 88 #[.int .u8 op, .int .u64 num, .slice ax mx cx], Thing.nums (.slice a m c) (valsL W vals (L.take k))]) HL1.out ?_
      rintro w1 hl1
      have HL2 := Lib.hid hl1
      obtain ⟨d0, d1, d2⟩ := cells3 hl1.box1
      obtain ⟨a1, cap1, c0, c1, c2, -⟩ := (HR.out.later hl1.below).parts
      clear hl1 HL1
      obtain ⟨R, hR⟩ : ∃ R, valN W vals (valsL W vals (L.take k)) (op, num, xs) = R := ⟨_, rfl⟩
      have HRR := Lib.hid hR
      have hargs := HR.out.wf.args k _ HI.out
      have hok := HR.out.wf.ok _ (List.mem_of_getElem? HI.out)
      have HARGS := Lib.hid hargs; have HOK := Lib.hid hok
      clear hR hargs hok
      go_upto_block 2 with fail
      go_cut [8] (fun r wx => r = .int .u64 R ∧ Lab w wx [Thing.nums (.slice a m c) (valsL W vals (L.take k))])
      case first =>
        by_cases e0 : op = 0
        · have ht : ((op : Int) == 0) = true := by rw [beq_iff_eq]; omega
          have hr : R = num := by rw [← HRR.out]; exact valN_const e0
          subst hr
          clear e0
          go_wp2
          go_meet
          exact ⟨rfl, HL2.out.drop⟩
        have ht : ((op : Int) == 0) = false := by rw [beq_eq_false_iff_ne]; omega
        by_cases e1 : op = 1
        · have ht1 : ((op : Int) == 1) = true := by rw [beq_iff_eq]; omega
          by_cases hlt2 : num < nv
          · have hle : ((num : Int) < (nv : Int)) := by omega
            obtain ⟨vb', off, q, rfl, hq, hqv⟩ := HCV.out num hlt2
            have hq0 : 0 ≤ q ∧ q ≤ 18446744073709551615 := HVU.out q (List.mem_of_getElem? hqv)
            have hr : R = ((q.toNat % 2 ^ W : Nat) : Int) := by rw [← HRR.out, valN_var (n := (op, num, xs)) e1 (by rw [HLV.out]; exact hlt2)]; rw [List.getD_eq_getElem?_getD, hqv]; rfl
            obtain ⟨qn, rfl⟩ := Int.eq_ofNat_of_zero_le hq0.1
            have ha := and_mask qn W (by omega) HR.out.w1 HR.out.w2
            rw [Int.toNat_natCast] at hr
            rw [← hr] at ha
            have hmk : ∀ wx, Calls Tryz.prog 59 #[.int .i64 W] wx fun e w' => e = .returned (.int .u64 ((2 ^ W - 1 : Nat) : Int)) ∧ w' = wx := fun wx => by
              refine (rmask_any W HR.out.w1 HR.out.w2 wx).mono ?_
              rintro e w' ⟨rfl, rfl⟩
              exact ⟨rfl, rfl⟩
            have k4 := cell_later HL2.out.below hq
            obtain ⟨MM, hMM⟩ : ∃ MM : Nat, 2 ^ W - 1 = MM := ⟨_, rfl⟩
            rw [hMM] at ha hmk
            have HMK := Lib.hid hmk
            clear hq hqv hq0 hr e1 e0 hmk hMM
            go_wp2
            go_quiet ((go_at_call 59; refine Calls.quiet_of_same (HMK.out _)))
            go_wp2
            go_meet
            exact ⟨rfl, HL2.out.drop.drewN _⟩
          · have hle : ¬ ((num : Int) < (nv : Int)) := by omega
            have hr : R = 0 := by rw [← HRR.out]; exact valN_no e1 (by rw [HLV.out]; exact hlt2)
            subst hr
            clear e1 e0 hlt2
            go_wp2
            go_meet
            exact ⟨rfl, HL2.out.drop⟩
        · have ht1 : ((op : Int) == 1) = false := by rw [beq_eq_false_iff_ne]; omega
          have hl3 := HL2.out.nil_nums
          have HL3 := Lib.hid hl3
          clear hl3
          go_wp2
          go_loopw [9, 10] (fun v i wr => ∃ j : Nat, j ≤ mx ∧ i = .int .i64 j ∧ ∃ a1 m1 k1, v = .slice a1 m1 k1 ∧ Lab w wr [Thing.nums (.slice a1 m1 k1) ((xs.take j).map fun a => (valsL W vals (L.take k)).getD a.toNat 0), Thing.box p 88 #[.int .u8 op, .int .u64 num, .slice ax mx cx], Thing.nums (.slice a m c) (valsL W vals (L.take k))]) (fun _ i _ => mx - (intOf i).toNat)
          case atStart => exact ⟨0, by omega, rfl, _, _, _, rfl, HL3.out⟩
          case round =>
            obtain ⟨j, hj, rfl, a1, m1, k1, rfl, hl⟩ := hrel
            obtain ⟨r0, r1, r2⟩ := cells3 hl.box2
            by_cases hlt3 : j < mx
            · obtain ⟨b, off, u, rfl, hc, hu⟩ := HVA.out.slice.parts' hlt3
              have hc1 := cell_later hl.below hc
              have hmem := List.mem_of_getElem? hu
              obtain ⟨g, rfl⟩ := Int.eq_ofNat_of_zero_le (HARGS.out u hmem).1
              have hgk : (g : Int) < (k : Int) := (HARGS.out _ hmem).2
              have hacc := hl.nums3
              have hlacc : (valsL W vals (L.take k)).length = k := by rw [valsL_len, List.length_take]; omega
              obtain ⟨b2, off2, q2, e2, hq2, hqv2⟩ := hacc.slice.parts' (i := g) (by obtain ⟨_, _, _, e, hl', _⟩ := hacc.slice; simp only [Value.slice.injEq] at e; omega)
              subst e2
              have hgm : (g : Int) < (m : Int) := by obtain ⟨_, _, _, e, hl', _⟩ := hacc.slice; simp only [Value.slice.injEq] at e; omega
              obtain ⟨X, hX⟩ : ∃ X, (xs.take j).map (fun a => (valsL W vals (L.take k)).getD a.toNat 0) = X := ⟨_, rfl⟩
              have hlx : X.length ≤ 999999999 := by rw [← hX, List.length_map, List.length_take]; omega
              have hs : X ++ [q2] = (xs.take (j + 1)).map fun a => (valsL W vals (L.take k)).getD a.toNat 0 := by
                rw [← take_snoc' hu, List.map_append, hX]
                simp [hqv2]
              rw [hX] at hl
              have hx := hl.nums
              have HS := Lib.hid hs; have HL4 := Lib.hid hl
              clear hl hs hacc hlacc hmem hu hc hqv2 hX
              go_wp2_with (at_builtin; refine wpList_append1_sep (P := Tryz.prog) 25 43 .u64 0 wr (.slice a1 m1 k1) X q2 8 hx _ _ rfl rfl Tryz.underlying25 Tryz.infoU64 (by decide) rfl rfl hlx (Nat.zero_le _) ?_; intro a2 c2 w2 hown2 ht2 hb2)
              have hl5 := HL4.out.grown_nums hown2 ht2 hb2
              rw [HS.out] at hl5
              have HL5 := Lib.hid hl5
              clear hl5 hown2 ht2 hb2 hx
              go_wp2
              go_roundw
              case rel => exact ⟨j + 1, by omega, by go_num, _, _, _, rfl, HL5.out⟩
              case measure => simp [intOf]; omega
            · obtain rfl : j = mx := by omega
              rw [show xs.take j = xs from List.take_of_length_le (by rw [HMX.out]; exact Nat.le_refl _)] at hl
              have hs := hl.nums.slice
              have hu : U64s (xs.map fun a => (valsL W vals (L.take k)).getD a.toNat 0) := by
                intro y hy
                obtain ⟨a, ha, rfl⟩ := List.mem_map.1 hy
                have h1 := HARGS.out a ha
                have e : val W vals (L.take k) a.toNat = val W vals L a.toNat := (val_prefix (List.take_prefix k L) (by rw [List.length_take]; omega)).symm
                show 0 ≤ val W vals (L.take k) a.toNat ∧ val W vals (L.take k) a.toNat ≤ _
                rw [e]
                exact val_u64 HR.out.w1 HR.out.w2 vals HR.out.wf a.toNat
              have hap : ∀ wx, SliceOf wx .u64 (.slice a1 m1 k1) (xs.map fun a => (valsL W vals (L.take k)).getD a.toNat 0) → Calls Tryz.prog 87 #[.int .u8 op, .int .i64 W, .slice a1 m1 k1] wx fun e w' => e = .returned (.tuple #[.int .u64 R, .int .i64 0]) ∧ w' = wx := fun wx hs => by
                have h := rapply_any op W (by omega) (by omega) _ _ wx hs hu (by rw [List.length_map, HMX.out]; omega)
                refine h.mono ?_
                rintro e w' ⟨rfl, rfl⟩
                have hr : wI op W (xs.map fun a => (valsL W vals (L.take k)).getD a.toNat 0) = R := by rw [← HRR.out]; exact (valN_app (n := (op, num, xs)) e0 e1).symm
                have he : wE op W (xs.map fun a => (valsL W vals (L.take k)).getD a.toNat 0).length = 0 := by
                  rw [List.length_map]
                  exact wE_zero HR.out.w1 HR.out.w2 (by omega) hop HOK.out.2.2.symm
                rw [hr, he]
                exact ⟨rfl, rfl⟩
              have hap2 : ∀ n, Calls Tryz.prog 87 #[.int .u8 op, .int .i64 W, .slice a1 m1 k1] (wr.drewN n) fun e w' => e = .returned (.tuple #[.int .u64 R, .int .i64 0]) ∧ w' = wr.drewN n := fun n => hap _ (hs.below (below_drewN (Below.refl _ _) n))
              obtain ⟨a4, cap4, t0, t1, t2, -⟩ := (HR.out.later hl.below).parts
              have HL4 := Lib.hid hl; have HAP := Lib.hid hap2
              clear hl hs hu hap hap2 c0 c1 c2 d0 d1 d2
              go_wp2
              go_quiet ((go_at_call 87; refine Calls.quiet_of_same (HAP.out _)))
              go_wp2
              go_meet
              exact ⟨rfl, HL4.out.drop.drop.drewN _⟩
      case rest =>
        obtain ⟨rfl, hl⟩ := hcut
        have hx := hl.nums
        have hlx : (valsL W vals (L.take k)).length ≤ 999999999 := by rw [valsL_len, List.length_take]; omega
        have hs : valsL W vals (L.take k) ++ [R] = valsL W vals (L.take (k + 1)) := by rw [← HRR.out]; exact valsL_take HI.out
        have HS := Lib.hid hs; have HL4 := Lib.hid hl
        clear hl hs
        go_wp2_with (at_builtin; refine wpList_append1_sep (P := Tryz.prog) 25 43 .u64 0 wc (.slice a m c) (valsL W vals (L.take k)) R 8 hx _ _ rfl rfl Tryz.underlying25 Tryz.infoU64 (by decide) rfl rfl hlx (Nat.zero_le _) ?_; intro a2 c2 w2 hown2 ht2 hb2)
        have hl5 := HL4.out.grown_nums hown2 ht2 hb2
        rw [HS.out] at hl5
        have HL5 := Lib.hid hl5
        clear hl5 hown2 ht2 hb2 hx
        go_wp2
        go_roundw
        case rel => exact ⟨k + 1, by omega, by go_num, _, _, _, rfl, HL5.out⟩
        case measure => simp [intOf]; omega
    · obtain rfl : k = L.length := by omega
      have HL := Lib.hid hl
      clear hl hrg c0 c1
      go_wp2
      go_ret
      rw [List.take_length] at HL
      exact ⟨_, _, _, rfl, HL.out.nums_base, HL.out.below⟩
end Go.Proofs.YteamnchoddegpaaGreatDoor
namespace Go.Proofs.YteamnchoddegpaaGreatDoor
open Go.RowKit Go.Maps
set_option maxHeartbeats 800000
theorem rall_any {w : World} {F I : List Nat} {rb W room : Nat} {L : List PNode} (h : RGr w 0 F I rb W room L) (ts vals : List Int) (v vv : Value) (hv : SliceOf w .i64 v ts) (hvv : SliceOf w .u64 vv vals) (hn : ts.length ≤ 900000000) (hvl : vals.length ≤ 9223372036854775807) (hvu : U64s vals) :
    Calls Tryz.prog 42 #[.pointer (some ⟨rb, 0, none⟩), v, vv] w fun e w' => ∃ a m c, e = .returned (.tuple #[.slice a m c, .int .i64 (allR W vals L ts).2]) ∧ OwnInts w' w.heap.size 43 .u64 (.slice a m c) (allR W vals L ts).1 ∧ Below w.heap.size w w' := by
  obtain ⟨av, nv, cv, rfl, -, -⟩ := hvv.parts
  obtain ⟨a, n, cap, rfl, hln, hcell⟩ := hv.parts
  have hn' : n ≤ 900000000 := by omega
  have hlen : L.length ≤ 1048576 := by have := h.len; have := h.r2; omega
  obtain ⟨R, hR⟩ : ∃ R, allR W vals L ts = R := ⟨_, rfl⟩
  rw [hR]
  have hvals := rvalues_any h vals _ hvv hvl hvu
  have HV := Lib.hid hvals; have HR := Lib.hid h; have HC := Lib.hid hcell; have HLN := Lib.hid hln; have HRR := Lib.hid hR; have HVV := Lib.hid hvv
  clear hvals h hcell hln hR hn hv hvv hvl hvu
  go_enter Tryz.func42, Tryz.ntmps42
  go_wp2
  go_loop [8] (fun i => ∃ k : Nat, k ≤ n ∧ i = .int .i64 k ∧ ∀ t ∈ ts.take k, (0 : Int) ≤ t ∧ t < (L.length : Int)) (fun i => n - (intOf i).toNat)
  case atStart => exact ⟨0, by omega, rfl, by simp⟩
  case round =>
    obtain ⟨k, hk, rfl, hall⟩ := hrel
    have HALL := Lib.hid hall
    clear hall
    by_cases hlt : k < n
    · obtain ⟨b, off, t, rfl, hc, ht⟩ := HC.out k hlt
      by_cases hin : 0 ≤ t ∧ t < (L.length : Int)
      · have his : ∀ wx, w = wx → Calls Tryz.prog 69 #[.pointer (some ⟨rb, 0, none⟩), .int .i64 t] wx fun e w' => e = .returned (.bool true) ∧ wx = w' := fun wx hx => by
          subst hx
          have := rIs_any HR.out t
          rw [show isT L t = true from decide_eq_true (by omega)] at this
          exact this
        have HIS := Lib.hid (his _ rfl); have HT := Lib.hid ht; have HIN := Lib.hid hin
        clear his ht hin
        go_wp2_with (go_at_call 69; refine HIS.out.mono ?_; rintro e w2 ⟨rfl, rfl⟩)
        go_round
        case rel =>
          refine ⟨k + 1, by omega, by go_num, fun u hu => ?_⟩
          rw [← take_snoc' HT.out] at hu
          rcases List.mem_append.1 hu with hu | hu
          · exact HALL.out u hu
          · simp at hu; subst hu; exact HIN.out
        case measure => simp [intOf]; omega
      · have his : ∀ wx, w = wx → Calls Tryz.prog 69 #[.pointer (some ⟨rb, 0, none⟩), .int .i64 t] wx fun e w' => e = .returned (.bool false) ∧ wx = w' := fun wx hx => by
          subst hx
          have := rIs_any HR.out t
          rw [show isT L t = false from decide_eq_false (by omega)] at this
          exact this
        have hr : R = ([], 3) := by rw [← HRR.out]; exact allR_out fun hA => hin (hA t (List.mem_of_getElem? ht))
        subst hr
        have HIS := Lib.hid (his _ rfl)
        clear his ht hin
        go_wp2_with (go_at_call 69; refine HIS.out.mono ?_; rintro e w2 ⟨rfl, rfl⟩)
        go_ret2
        exact ⟨none, 0, 0, rfl, OwnInts.nil _ _ _ _, Below.refl _ _⟩
    · obtain rfl : k = n := by omega
      rw [List.take_of_length_le (by rw [HLN.out]; exact Nat.le_refl _)] at HALL
      have hr : R = (allV W vals L ts, 0) := by rw [← HRR.out]; exact allR_in HALL.out
      subst hr
      go_wp2_with fail
      go_at_call 73
      refine HV.out.mono ?_
      rintro e w2 ⟨a1, m1, c1, rfl, ho, hb⟩
      have hl0 := ((Lab.nil (Below.refl w.heap.size w)).new_nums hb ho).nil_nums
      have HL0 := Lib.hid hl0
      clear hl0 ho hb
      go_wp2
      go_loopw [10, 11] (fun v i wr => ∃ j : Nat, j ≤ k ∧ i = .int .i64 j ∧ ∃ a2 m2 c2, v = .slice a2 m2 c2 ∧ Lab w wr [Thing.nums (.slice a2 m2 c2) ((allV W vals L ts).take j), Thing.nums (.slice a1 m1 c1) (valsL W vals L)]) (fun _ i _ => k - (intOf i).toNat)
      case atStart => exact ⟨0, by omega, rfl, _, _, _, rfl, HL0.out⟩
      case round =>
        obtain ⟨j, hj, rfl, a2, m2, c2, rfl, hl⟩ := hrel
        by_cases hlt3 : j < k
        · obtain ⟨b, off, u, rfl, hc, hu⟩ := HC.out j hlt3
          have hc1 := cell_later hl.below hc
          have hmem := List.mem_of_getElem? hu
          obtain ⟨g, rfl⟩ := Int.eq_ofNat_of_zero_le (HALL.out u hmem).1
          have hgk : (g : Int) < (L.length : Int) := (HALL.out _ hmem).2
          have hacc := hl.nums2
          have hlacc : (valsL W vals L).length = L.length := valsL_len _ _ _
          obtain ⟨b2, off2, q2, e2, hq2, hqv2⟩ := hacc.slice.parts' (i := g) (by obtain ⟨_, _, _, e, hl', _⟩ := hacc.slice; simp only [Value.slice.injEq] at e; omega)
          subst e2
          have hgm : (g : Int) < (m1 : Int) := by obtain ⟨_, _, _, e, hl', _⟩ := hacc.slice; simp only [Value.slice.injEq] at e; omega
          obtain ⟨X, hX⟩ : ∃ X, (allV W vals L ts).take j = X := ⟨_, rfl⟩
          have hlx : X.length ≤ 999999999 := by rw [← hX, List.length_take]; omega
          have hs : X ++ [q2] = (allV W vals L ts).take (j + 1) := by
            rw [← take_snoc' (q := q2) (by unfold allV; rw [List.getElem?_map, hu]; simp [val, hqv2]), hX]
          rw [hX] at hl
          have hx := hl.nums
          have HS := Lib.hid hs; have HL4 := Lib.hid hl
          clear hl hs hacc hlacc hmem hu hc hqv2 hX
          go_wp2_with (at_builtin; refine wpList_append1_sep (P := Tryz.prog) 25 43 .u64 0 wr (.slice a2 m2 c2) X q2 8 hx _ _ rfl rfl Tryz.underlying25 Tryz.infoU64 (by decide) rfl rfl hlx (Nat.zero_le _) ?_; intro a3 c3 w3 hown3 ht3 hb3)
          have hl5 := HL4.out.grown_nums hown3 ht3 hb3
          rw [HS.out] at hl5
          have HL5 := Lib.hid hl5
          clear hl5 hown3 ht3 hb3 hx
          go_wp2
          go_roundw
          case rel => exact ⟨j + 1, by omega, by go_num, _, _, _, rfl, HL5.out⟩
          case measure => simp [intOf]; omega
        · obtain rfl : j = k := by omega
          rw [show (allV W vals L ts).take j = allV W vals L ts from List.take_of_length_le (by unfold allV; rw [List.length_map, HLN.out]; exact Nat.le_refl _)] at hl
          have HL4 := Lib.hid hl
          clear hl
          go_wp2
          go_ret2
          exact ⟨_, _, _, rfl, HL4.out.nums_base, HL4.out.below⟩
theorem reval_any {w : World} {F I : List Nat} {rb W room : Nat} {L : List PNode} (h : RGr w 0 F I rb W room L) (t : Int) (vals : List Int) (vv : Value) (hvv : SliceOf w .u64 vv vals) (hvl : vals.length ≤ 9223372036854775807) (hvu : U64s vals) :
    Calls Tryz.prog 15 #[.pointer (some ⟨rb, 0, none⟩), .int .i64 t, vv] w fun e w' => e = .returned (.tuple #[.int .u64 (evalR W vals L t).1, .int .i64 (evalR W vals L t).2]) ∧ Below w.heap.size w w' := by
  obtain ⟨av, nv, cv, rfl, -, -⟩ := hvv.parts
  have hb1 := below_new w (.cells #[.int .i64 t] 3)
  have hall := rall_any (h.later hb1) [t] vals _ _ (sliceOf_new w .i64 3 [t] 1) (hvv.below hb1) (by simp) hvl hvu
  have HB1 := Lib.hid hb1
  by_cases hin : 0 ≤ t ∧ t < (L.length : Int)
  · have hr : evalR W vals L t = (val W vals L t.toNat, 0) := if_pos hin
    rw [allR_in (allIn_one.2 hin)] at hall
    rw [hr]
    have HALL := Lib.hid hall
    clear hall hr hb1 h hvv hin
    go_enter Tryz.func15, Tryz.ntmps15
    go_wp2_with fail
    go_at_call 42
    refine HALL.out.mono ?_
    rintro e w2 ⟨a, m, c, rfl, ho, hb2⟩
    obtain ⟨a', n', c', e', hl', hcell⟩ := ho.slice.parts
    simp only [Value.slice.injEq] at e'
    obtain ⟨rfl, rfl, rfl⟩ := e'
    obtain rfl : m = 1 := by rw [← hl']; rfl
    obtain ⟨b, off, q, rfl, hc, hq⟩ := hcell 0 (by omega)
    obtain rfl : val W vals L t.toNat = q := by simpa [allV] using hq
    rw [Nat.add_zero] at hc
    have HB2 := Lib.hid (HB1.out.trans (hb2.mono HB1.out.size))
    clear ho hb2 hcell hq hl'
    go_wp2
    go_ret2
    exact ⟨rfl, HB2.out⟩
  · have hr : evalR W vals L t = (0, 3) := if_neg hin
    rw [allR_out (fun h => hin (allIn_one.1 h))] at hall
    rw [hr]
    have HALL := Lib.hid hall
    clear hall hr hb1 h hvv hin
    go_enter Tryz.func15, Tryz.ntmps15
    go_wp2_with fail
    go_at_call 42
    refine HALL.out.mono ?_
    rintro e w2 ⟨a, m, c, rfl, ho, hb2⟩
    have HB2 := Lib.hid (HB1.out.trans (hb2.mono HB1.out.size))
    clear ho hb2
    go_wp2
    go_ret2
    exact ⟨rfl, HB2.out⟩
end Go.Proofs.YteamnchoddegpaaGreatDoor
namespace Go.Proofs.YteamnchoddegpaaGreatDoor
open Go.RowKit Go.Maps
set_option maxHeartbeats 800000
section
variable {w0 wr w' : World} {ts : List Thing} {F I : List Nat} {gb W room : Nat} {L : List PNode}
/-- A call of Eval with values that are laid ahead of it. -/
theorem Lab.eval (h : Lab w0 wr (Thing.graph F I gb W room L :: ts)) (t : Int) (vals : List Int) (vv : Value) (hvv : SliceOf wr .u64 vv vals) (hvl : vals.length ≤ 9223372036854775807) (hvu : U64s vals) {R : Int × Nat} (hR : evalR W vals L t = R) :
    Calls Tryz.prog 14 #[.pointer (some ⟨gb, 0, none⟩), .int .i64 t, vv] wr fun e w' => e = .returned (.tuple #[.int .u64 R.1, .int .i64 R.2]) ∧ Lab w0 w' (Thing.graph F I gb W room L :: ts) := by
  subst hR
  exact (eval_any h.gr t vals vv hvv hvl hvu).mono fun e w' ⟨he, hb⟩ => ⟨he, h.later hb⟩
end
end Go.Proofs.YteamnchoddegpaaGreatDoor
namespace Go.Proofs.YteamnchoddegpaaGreatDoor
open Go.RowKit Go.Maps Go.ChangeMaps
set_option maxHeartbeats 400000
theorem perm_born : ∀ {l : List MapEntry} {e : MapEntry}, (l.map (·.born)).Nodup → e ∈ l → l.Perm (e :: l.filter fun x => !(x.born == e.born))
  | [], _, _, h => by cases h
  | x :: l, e, hn, h => by
    simp only [List.map_cons, List.nodup_cons] at hn
    rcases List.mem_cons.1 h with rfl | h
    · have hf : l.filter (fun x => !(x.born == e.born)) = l := by
        rw [List.filter_eq_self]
        intro y hy
        have : y.born ≠ e.born := fun he => hn.1 (List.mem_map.2 ⟨y, hy, he⟩)
        simpa using this
      rw [List.filter_cons, if_neg (by simp), hf]
    · have hne : x.born ≠ e.born := fun he => hn.1 (List.mem_map.2 ⟨e, h, he.symm⟩)
      rw [List.filter_cons, if_pos (by simpa using hne)]
      exact ((perm_born hn.2 h).cons x).trans (List.Perm.swap e x _)
/-- A loop over block mb is under way, its iterator in block r: d has come. -/
def MapRng (w : World) (mb r : Nat) (m d : List (Value × Value)) : Prop :=
  ∃ es clock seen, w.heap[mb]? = some (.map es clock) ∧ (es.toList.map (·.born)).Nodup ∧ (∀ e ∈ es.toList, e.born < clock) ∧ w.heap[r]? = some (.mapIter (some mb) clock seen clock) ∧
    (d ++ (leftOf es seen).toList.map fun e => (e.key, e.val)).Perm m
/-- How much is to come. -/
def rngLeft (w : World) (mb r : Nat) : Nat :=
  match w.heap[mb]?, w.heap[r]? with
  | some (.map es _), some (.mapIter _ _ seen _) => (leftOf es seen).size
  | _, _ => 0
theorem below_new' (w : World) (o : Obj) : Below w.heap.size w (w.alloc o) := (Below.refl _ _).alloc (Nat.le_refl _) o
section
variable {P : Program} {K : TypeId} {w w' : World} {mb r : Nat} {m d : List (Value × Value)}
theorem MapRng.keep (h : MapRng w mb r m d) (h1 : w'.heap[mb]? = w.heap[mb]?) (h2 : w'.heap[r]? = w.heap[r]?) : MapRng w' mb r m d ∧ rngLeft w' mb r = rngLeft w mb r := by
  refine ⟨?_, by unfold rngLeft; rw [h1, h2]⟩
  obtain ⟨es, clock, seen, a, b, c, e, f⟩ := h
  exact ⟨es, clock, seen, h1.trans a, b, c, h2.trans e, f⟩
theorem MapRng.lt (h : MapRng w mb r m d) : mb < w.heap.size ∧ r < w.heap.size := by
  obtain ⟨es, clock, seen, a, b, c, e, f⟩ := h
  exact ⟨(Array.getElem?_eq_some_iff.1 a).1, (Array.getElem?_eq_some_iff.1 e).1⟩
/-- 'range m'. -/
theorem wpList_range_map {ops : Array Oper} {rest : List Oper} {o : Oper} {a : Act} {Q : Exit → Act → World → Prop} (hg : o.guard = none) (x : Operand) (T E : TypeId) (hop : o.op = Op.range T x) (hT : P.underlying T = some (.map K E)) (hx : a.eval x = .map (some mb)) (h : MapIs P K w mb m)
    (hK : ∀ w', MapRng w' mb w.heap.size m [] → Below w.heap.size w w' → w'.heap.size = w.heap.size + 1 → wpList P ops Q rest (a.put o.dst (.pointer (some ⟨w.heap.size, 0, none⟩))) w') : wpList P ops Q (o :: rest) a w := by
  obtain ⟨es, clock, h1, h2, h3, h4, h5, h6⟩ := h
  have hlt := (Array.getElem?_eq_some_iff.1 h1).1
  have hrun := run_range_map (P := P) w T K E mb es clock hT h1
  refine wpList_plain hg fun K' hK' => ?_
  unfold Oper.wp
  simp [execOp, hop, hx, hrun, Result.andThen]
  refine hK' _ _ (hK _ ⟨es, clock, #[], (heap_alloc_old w _ hlt).trans h1, h5, h6, heap_alloc_new w _, ?_⟩ (below_new' w _) (by simp))
  have hl : leftOf es #[] = es := by unfold leftOf; simp
  rw [hl]
  exact h3
theorem MapRng.next (h : MapRng w mb r m d) (ty : TypeId) :
    (d.Perm m ∧ (Instr.next (.pointer (some ⟨r, 0, none⟩)) false ty).run P w = .ok (.tuple #[.bool false]) w) ∨
    ∃ k v w', (∃ l, (d ++ (k, v) :: l).Perm m) ∧ (Instr.next (.pointer (some ⟨r, 0, none⟩)) false ty).run P w = .ok (.tuple #[.bool true, k, v]) w' ∧ MapRng w' mb r m (d ++ [(k, v)]) ∧ rngLeft w' mb r < rngLeft w mb r ∧ But r w w' ∧
      (Instr.entry (.pointer (some ⟨r, 0, none⟩))).run P w' = .ok (.tuple #[k, v]) w' := by
  obtain ⟨es, clock, seen, h1, h2, h3, h4, h5⟩ := h
  have hne : mb ≠ r := by rintro rfl; rw [h1] at h4; cases h4
  rcases run_next_at (P := P) w ty r mb clock clock seen es clock h4 h1 h3 (Nat.le_refl _) with ⟨h0, hrun⟩ | ⟨e, he, w1, hal, hrun⟩
  · left
    refine ⟨?_, hrun⟩
    have : (leftOf es seen).toList = [] := by
      have := Array.eq_empty_of_size_eq_zero h0
      rw [this]
    rw [this] at h5
    simpa using h5
  · right
    obtain ⟨hem, hes⟩ := mem_left he
    have hr1 : w1.heap[r]? = some (.mapIter (some mb) clock seen clock) := by rcases hal with rfl | rfl <;> exact h4
    have hb1 : w1.heap[mb]? = some (.map es clock) := by rcases hal with rfl | rfl <;> exact h1
    have hset := MapKept.heap_set (o' := .mapIter (some mb) clock (seen.push e.born) clock) hr1
    have hb' : (setBlock w1 r (.mapIter (some mb) clock (seen.push e.born) clock)).heap[mb]? = some (.map es clock) := (hset.2 mb hne).trans hb1
    have hleft : (leftOf es (seen.push e.born)).toList = (leftOf es seen).toList.filter fun x => !(x.born == e.born) := by
      unfold leftOf
      simp only [Array.toList_filter, List.filter_filter]
      refine List.filter_congr fun x _ => ?_
      rw [contains_push]
      cases seen.contains x.born <;> cases (x.born == e.born) <;> rfl
    have hnl : ((leftOf es seen).toList.map (·.born)).Nodup := by
      refine h2.sublist (List.Sublist.map _ ?_)
      unfold leftOf
      rw [Array.toList_filter]
      exact List.filter_sublist
    have hp := perm_born hnl he
    refine ⟨e.key, e.val, _, ⟨((leftOf es (seen.push e.born)).toList.map fun e => (e.key, e.val)), ?_⟩, hrun, ⟨es, clock, seen.push e.born, hb', h2, h3, hset.1, ?_⟩, ?_, ?_, run_entry_at _ r mb clock seen es clock e hset.1 hb' hem h2⟩
    · rw [hleft]
      exact ((hp.map fun e => (e.key, e.val)).append_left d).symm.trans h5
    · rw [List.append_assoc, hleft]
      exact ((hp.map fun e => (e.key, e.val)).append_left d).symm.trans h5
    · have e1 : rngLeft w mb r = (leftOf es seen).size := by unfold rngLeft; rw [h1, h4]
      have e2 : rngLeft (setBlock w1 r (.mapIter (some mb) clock (seen.push e.born) clock)) mb r = (leftOf es (seen.push e.born)).size := by unfold rngLeft; rw [hb', show (setBlock w1 r (.mapIter (some mb) clock (seen.push e.born) clock)).heap[r]? = _ from hset.1]
      rw [e1, e2]
      exact left_shrinks es seen e he
    · rcases hal with rfl | rfl
      · exact ⟨rfl, rfl, rfl, by simp [setBlock], fun i hi => hset.2 i hi⟩
      · exact ⟨rfl, rfl, rfl, by simp [setBlock], fun i hi => hset.2 i hi⟩
/-- The step. -/
theorem wpList_next_map {ops : Array Oper} {rest : List Oper} {o : Oper} {a : Act} {Q : Exit → Act → World → Prop} (hg : o.guard = none) (x : Operand) (hop : o.op = Op.next x false) (hx : a.eval x = .pointer (some ⟨r, 0, none⟩)) (h : MapRng w mb r m d)
    (hDone : d.Perm m → wpList P ops Q rest (a.put o.dst (.tuple #[.bool false])) w)
    (hMore : ∀ k v w', (∃ l, (d ++ (k, v) :: l).Perm m) → MapRng w' mb r m (d ++ [(k, v)]) → rngLeft w' mb r < rngLeft w mb r → But r w w' → (Instr.entry (.pointer (some ⟨r, 0, none⟩))).run P w' = .ok (.tuple #[k, v]) w' → wpList P ops Q rest (a.put o.dst (.tuple #[.bool true, k, v])) w') :
    wpList P ops Q (o :: rest) a w := by
  refine wpList_plain hg fun K' hK' => ?_
  unfold Oper.wp
  rcases h.next (P := P) o.type with ⟨h0, hrun⟩ | ⟨k, v, w', h1, hrun, h2, h3, h4, h5⟩
  · simp [execOp, hop, hx, hrun, Result.andThen]
    exact hK' _ _ (hDone h0)
  · simp [execOp, hop, hx, hrun, Result.andThen]
    exact hK' _ _ (hMore k v w' h1 h2 h3 h4 h5)
theorem MapIs.perm {m' : List (Value × Value)} (h : MapIs P K w mb m) (hp : m.Perm m') : MapIs P K w mb m' := by
  obtain ⟨es, clock, h1, h2, h3, h4, h5, h6⟩ := h
  exact ⟨es, clock, h1, h2, h3.trans hp, ((hp.map (·.1)).nodup_iff).1 h4, h5, h6⟩
end
end Go.Proofs.YteamnchoddegpaaGreatDoor
namespace Go.Proofs.YteamnchoddegpaaGreatDoor
open Go.RowKit Go.Maps
set_option maxHeartbeats 800000
/-- A set, as a map's function. -/
def setF (S : Int → Bool) : Int → Option Value := fun k => if S k = true then some (.bool true) else none
theorem setF_put {S : Int → Bool} {k : Int} : ∀ j, (if j = k then some (Value.bool true) else setF S j) = setF (fun j => if j = k then true else S j) j := by
  intro j
  unfold setF
  by_cases h : j = k
  · simp [h]
  · simp [h]
section
variable {w0 wr w' : World} {ts : List Thing} {K T E : TypeId} {kd : IntKind} {mb c : Nat} {S : Int → Bool}
/-- A set in memory: what a look-up answers. -/
theorem MapF.ask {w : World} (h : MapF Tryz.prog K kd w mb (setF S) c) (hK : Tryz.prog.underlying K = some (.int kd)) (hT : Tryz.prog.underlying T = some (.map K E)) (hz : (zeroValue E).run Tryz.prog w = .ok (.bool false) w) {k : Int} (hw : (Lit.int kd k).wf = true) :
    (Instr.lookup T (.map (some mb)) (.int kd k) false).run Tryz.prog w = .ok (.bool (S k)) w := by
  cases hs : S k with
  | true => exact h.hit hK hT hw (v := .bool true) (by unfold setF; rw [if_pos hs]) false
  | false => exact h.miss hK hT hz hw (by unfold setF; rw [if_neg (by rw [hs]; decide)]) false
/-- A set takes one in. -/
theorem Lab.sput (h : ∃ c, Lab w0 wr (Thing.mapf K kd mb (setF S) c :: ts)) (hK : Tryz.prog.underlying K = some (.int kd)) (hT : Tryz.prog.underlying T = some (.map K E)) {k : Int} (hw : (Lit.int kd k).wf = true) :
    (Instr.mapUpdate T (.map (some mb)) (.int kd k) (.bool true)).run Tryz.prog wr = .ok () (mapW Tryz.prog T mb (.int kd k) (.bool true) wr) ∧ ∃ c, Lab w0 (mapW Tryz.prog T mb (.int kd k) (.bool true) wr) (Thing.mapf K kd mb (setF fun j => if j = k then true else S j) c :: ts) := by
  obtain ⟨c, h⟩ := h
  obtain ⟨hr, hl⟩ := h.mput hK hT hw (.bool true)
  exact ⟨hr, _, hl.mapf_congr setF_put⟩
end
theorem zeroBool (w : World) : (zeroValue 4).run Tryz.prog w = .ok (.bool false) w := by kernel_rfl
theorem wf_i64 {k : Int} (h1 : -9223372036854775808 ≤ k) (h2 : k ≤ 9223372036854775807) : (Lit.int .i64 k).wf = true := by
  simp [Lit.wf, IntKind.min, IntKind.max, IntKind.signed, IntKind.bits]; omega
theorem wf_u64 {k : Int} (h1 : 0 ≤ k) (h2 : k ≤ 18446744073709551615) : (Lit.int .u64 k).wf = true := by
  simp [Lit.wf, IntKind.min, IntKind.max, IntKind.signed, IntKind.bits]; omega
/-- A map over which a loop is under way: block mb, the loop's own block r. -/
def Thing.rng (mb r : Nat) (m d : List (Value × Value)) : Thing :=
  ⟨[mb, r], [], fun w => MapRng w mb r m d, fun _ _ h hk => (h.keep (hk mb (.inl (by simp))) (hk r (.inl (by simp)))).1⟩
section
variable {w0 wr w' : World} {ts : List Thing} {K : TypeId} {kd : IntKind} {mb r c : Nat} {f : Int → Option Value} {m d d' : List (Value × Value)}
theorem Lab.rng (h : Lab w0 wr (Thing.rng mb r m d :: ts)) : MapRng wr mb r m d := h.head
/-- The loop begins. -/
theorem Lab.rng_start (h : Lab w0 wr (Thing.mapf K kd mb f c :: ts)) (hr : MapRng w' mb wr.heap.size m []) (hb : Below wr.heap.size wr w') : Lab w0 w' (Thing.rng mb wr.heap.size m [] :: ts) := by
  refine h.turn (s' := Thing.rng mb wr.heap.size m []) (Touch.of_below hb _) hr (fun k hk => ?_) (fun k hk => by simp [Thing.rng] at hk) (fun k hk => ?_)
  · simp only [Thing.rng, List.mem_cons, List.not_mem_nil, or_false] at hk
    rcases hk with rfl | rfl
    · exact .inl (by simp [Thing.mapf])
    · exact .inr (Nat.le_refl _)
  · simp only [Thing.rng, List.mem_cons, List.not_mem_nil, or_false] at hk
    rcases hk with rfl | rfl
    · exact hr.lt.1
    · exact hr.lt.2
/-- One more has come. -/
theorem Lab.rng_next (h : Lab w0 wr (Thing.rng mb r m d :: ts)) (hr : MapRng w' mb r m d') (hb : But r wr w') : Lab w0 w' (Thing.rng mb r m d' :: ts) := by
  refine h.turn (s' := Thing.rng mb r m d') ⟨hb.os, hb.tape, hb.output, by rw [hb.size]; exact Nat.le_refl _, fun k _ hn => hb.block k (by simp [Thing.rng] at hn; exact hn.2)⟩ hr (fun k hk => .inl hk) (fun k hk => by simp [Thing.rng] at hk) (fun k hk => ?_)
  simp only [Thing.rng, List.mem_cons, List.not_mem_nil, or_false] at hk
  rcases hk with rfl | rfl
  · exact hr.lt.1
  · exact hr.lt.2
/-- What a loop over a map of integers' keys hands over. -/
theorem rng_key (h : ∀ p ∈ m, ∃ k v, p = (Value.int kd k, v) ∧ f k = some v) {k v : Value} (hm : ∃ l, (d ++ (k, v) :: l).Perm m) : ∃ j, k = .int kd j ∧ f j = some v := by
  obtain ⟨l, hl⟩ := hm
  obtain ⟨j, u, e, hj⟩ := h (k, v) (hl.mem_iff.1 (by simp))
  simp only [Prod.mk.injEq] at e
  exact ⟨j, e.1, by rw [e.2]; exact hj⟩
end
end Go.Proofs.YteamnchoddegpaaGreatDoor
namespace Go.Proofs.YteamnchoddegpaaGreatDoor
open Go.RowKit Go.Maps
set_option maxHeartbeats 3200000
section
variable {w0 wr w' : World} {ts : List Thing} {F I : List Nat} {gb W room : Nat} {L : List PNode}
theorem own_some' {w : World} {B E : Nat} {k : IntKind} {v : Value} {xs : List Int} (h : OwnInts w B E k v xs) (h0 : xs ≠ []) : ∃ g cap, v = .slice (some ⟨g, 0, none⟩) xs.length cap := by
  rcases h.2 with ⟨-, h1⟩ | ⟨g, cap, cur, rfl, -⟩
  · exact absurd (List.length_eq_zero_iff.1 h1) h0
  · exact ⟨g, cap, rfl⟩
/-- The last one is let go. -/
theorem Lab.pop {a : Option Addr} {c : Nat} {xs : List Int} {t : Int} (h : Lab w0 wr (Thing.ints (.slice a (xs.length + 1) c) (xs ++ [t]) :: ts)) : Lab w0 wr (Thing.ints (.slice a xs.length c) xs :: ts) := by
  refine h.say (s' := Thing.ints (.slice a xs.length c) xs) ?_ (fun k hk => by simp [Thing.ints, Thing.row] at hk) (fun hh => ?_)
  · cases a <;> rfl
  · have hh' : OwnInts wr 0 3 .i64 (.slice a (xs.length + 1) c) (xs ++ [t]) := hh
    obtain ⟨g, cap, e⟩ := own_some' hh' (by simp)
    simp only [Value.slice.injEq] at e
    obtain ⟨rfl, -, rfl⟩ := e
    unfold OwnInts at hh'
    rw [List.length_append, List.map_append] at hh'
    exact ownsRow_pop (by rw [List.length_map, Nat.mul_one]) hh'
theorem Lab.ints_cap {a : Option Addr} {m c : Nat} {xs : List Int} (h : Lab w0 wr (Thing.ints (.slice a m c) xs :: ts)) : m ≤ c ∧ m = xs.length := by
  rcases h.ints.2 with ⟨h1, h2⟩ | ⟨g, cap, cur, h1, -, -, h2, -⟩
  · simp only [Value.slice.injEq] at h1; omega
  · simp only [Value.slice.injEq] at h1; omega
/-- A list is appended to an own one. -/
theorem wpList_append_lab {ops : Array Oper} {rest : List Oper} {o : Oper} {a : Act} {Q : Exit → Act → World → Prop} {ao : Option Addr} {c : Nat} {xv : Value} {xs ys : List Int} (s x : Operand) (h : Lab w0 wr (Thing.ints (.slice ao xs.length c) xs :: ts)) (hsrc : SliceOf wr .i64 xv ys) (hgd : o.guard = none)
    (ho : o.op = .call { callee := .builtin .append, args := #[s, x], argTypes := #[24, 24] }) (hs : a.eval s = .slice ao xs.length c) (hx : a.eval x = xv) (hn : xs.length + ys.length ≤ 1000000000)
    (hK : ∀ a' c' w', Lab w0 w' (Thing.ints (.slice a' (xs ++ ys).length c') (xs ++ ys) :: ts) → wpList Tryz.prog ops Q rest (a.put o.dst (.slice a' (xs ++ ys).length c')) w') : wpList Tryz.prog ops Q (o :: rest) a wr := by
  by_cases hy : ys = []
  · subst hy
    obtain ⟨i0, hi0, hz0, hz1, hz2⟩ := info_parts Tryz.infoI64
    obtain ⟨a2, c2, hxv, -, -⟩ := hsrc.src
    have hrun := run_append_nothing (P := Tryz.prog) wr 24 24 o.type 3 i0 Tryz.underlying24 hi0 ao xs.length c (h.ints_cap.1) xv (by subst hxv; cases a2 with | none => exact Src.ofNil wr Tryz.underlying24 c2 | some ad => exact Src.ofSlice wr Tryz.underlying24 ad 0 c2 [] (by simp) (by simp) (by simp))
    refine wpList_plain hgd fun _ hK' => ?_
    unfold Oper.wp execOp
    simp only [ho, resolve, invoke, builtin, Sem.run_bind, Sem.run_pure, Result.andThen_ok, List.map_toArray, List.map_cons, List.map_nil, hs, hx, hrun]
    have := hK ao c wr (by rw [List.append_nil]; exact h)
    rw [List.append_nil] at this
    exact hK' _ _ this
  · have hown : wr.ownsRow 0 3 1 (.slice ao xs.length c) xs.length (xs.map (Value.int .i64)) := h.ints
    have h1 : ∀ u ∈ ys.map (Value.int .i64), u.oneCell' = true := fun u hu => by
      obtain ⟨y, _, rfl⟩ := List.mem_map.1 hu
      rfl
    obtain ⟨v', w', hr, h2, h3⟩ := run_append_src (P := Tryz.prog) wr 0 24 o.type 3 1 8 (.int .i64 0) Tryz.underlying24 Tryz.infoI64 rfl (by decide) (by decide) _ xv xs.length ys.length _ _ hown hsrc.src h1 hn (Nat.zero_le _)
    have hpos : 0 < ys.length := List.length_pos_iff.2 hy
    have blk := append_block (P := Tryz.prog) (T := 24) (ty := o.type) (bytes := 8) (z := .int .i64 0) Tryz.underlying24 Tryz.infoI64 (by decide) hown hsrc.src h1 hpos hn hr
    obtain ⟨a', c', rfl⟩ : ∃ a' c', v' = .slice a' (xs.length + ys.length) c' := by
      rcases h2.2 with ⟨_, h0⟩ | ⟨g, cap, cur, rfl, _⟩
      · omega
      · exact ⟨_, _, rfl⟩
    refine wpList_plain hgd fun _ hK' => ?_
    unfold Oper.wp execOp
    simp only [ho, resolve, invoke, builtin, Sem.run_bind, Sem.run_pure, Result.andThen_ok, List.map_toArray, List.map_cons, List.map_nil, hs, hx, hr]
    have hl : Lab w0 w' (Thing.ints (.slice a' (xs.length + ys.length) c') (xs ++ ys) :: ts) := by
      have hown2 : OwnInts w' 0 3 .i64 (.slice a' (xs.length + ys.length) c') (xs ++ ys) := by
        unfold OwnInts
        rw [List.length_append, List.map_append]
        exact h2
      refine h.turn (s' := Thing.ints (.slice a' (xs.length + ys.length) c') (xs ++ ys)) ⟨h3.os, h3.tape, h3.output, h3.size, fun b hb hn => h3.block b hb (fun e => hn (by simp [Thing.ints, Thing.row, ← e]))⟩ hown2 (fun k hk => ?_) (fun k hk => by simp [Thing.ints, Thing.row] at hk) (fun k hk => ?_)
      · have hk' : (Value.slice a' (xs.length + ys.length) c').ownBlock = some k := by simpa [Thing.ints, Thing.row] using hk
        exact (blk k hk').imp (fun e => by simp [Thing.ints, Thing.row, e]) id
      · rcases hk with hk | hk
        · exact (World.ownsRow.lt hown2 k (by simpa [Thing.ints, Thing.row] using hk)).2
        · simp [Thing.ints, Thing.row] at hk
    have := hK a' c' w' (by rw [List.length_append]; exact hl)
    rw [List.length_append] at this
    exact hK' _ _ this
end
/-- The map of nodes that were seen. -/
structure NodeF (L : List PNode) (S : Nat → Bool) (f : Int → Option Value) : Prop where
  has : ∀ j : Nat, S j = true → ∃ n a m c, L[j]? = some n ∧ f (j : Int) = some (.agg #[.int .u8 n.1, .int .u64 n.2.1, .slice a m c])
  only : ∀ k v, f k = some v → ∃ j : Nat, k = (j : Int) ∧ S j = true
theorem NodeF.start (L : List PNode) : NodeF L (fun _ => false) (fun _ => Option.none) := ⟨fun j h => (by cases h), fun k v h => (by cases h)⟩
theorem NodeF.put {L : List PNode} {S : Nat → Bool} {f : Int → Option Value} (h : NodeF L S f) {t : Nat} {n : PNode} (hn : L[t]? = some n) (a : Option Addr) (m c : Nat) : NodeF L (mark S t) (fun k => if k = (t : Int) then some (.agg #[.int .u8 n.1, .int .u64 n.2.1, .slice a m c]) else f k) := by
  refine ⟨fun j hj => ?_, fun k v hk => ?_⟩
  · by_cases e : j = t
    · subst e
      exact ⟨n, a, m, c, hn, if_pos rfl⟩
    · have hj' : S j = true := by unfold mark at hj; rwa [if_neg e] at hj
      obtain ⟨n', a', m', c', h1, h2⟩ := h.has j hj'
      exact ⟨n', a', m', c', h1, by rw [if_neg (by omega)]; exact h2⟩
  · by_cases e : k = (t : Int)
    · exact ⟨t, e, mark_self⟩
    · rw [if_neg e] at hk
      obtain ⟨j, h1, h2⟩ := h.only k v hk
      exact ⟨j, h1, mark_old h2⟩
theorem Lab.subl {w0 wr : World} {ts ts' : List Thing} (h : Lab w0 wr ts) (hs : ts'.Sublist ts) : Lab w0 wr ts' :=
  ⟨h.below, fun t ht => h.holds t (hs.subset ht), fun t ht => h.low t (hs.subset ht), fun t ht => h.high t (hs.subset ht), h.apart.sublist hs⟩
/-- How many entries a map has. -/
def mlen (w : World) (mb : Nat) : Nat := match w.heap[mb]? with | some (.map es _) => es.size | _ => 0
theorem mlen_of {w : World} {mb c : Nat} {K : TypeId} {kd : IntKind} {f : Int → Option Value} (h : MapF Tryz.prog K kd w mb f c) : mlen w mb = c := by
  obtain ⟨m, ⟨es, clock, h1, h2, h3, -⟩, hc, -⟩ := h
  unfold mlen
  rw [h1]
  have := h3.length_eq
  simpa [← hc] using this
def slen : Value → Nat | .slice _ n _ => n | _ => 0
/-- What grows less with each round. -/
def supMeas (N mb : Nat) (v : Value) (w : World) : Nat := 4 * (N - mlen w mb) + slen v
theorem supMeas_of {w : World} {N mb c : Nat} {K : TypeId} {kd : IntKind} {f : Int → Option Value} (h : MapF Tryz.prog K kd w mb f c) (a : Option Addr) (n cc : Nat) : supMeas N mb (.slice a n cc) w = 4 * (N - c) + n := by
  unfold supMeas; rw [mlen_of h]; rfl
theorem argsOf_at {L : List PNode} {t : Nat} {n : PNode} (h : L[t]? = some n) : argsOf L t = n.2.2 := by unfold argsOf; rw [h]
theorem zeroNode (w : World) : (zeroValue 88).run Tryz.prog w = .ok (.agg #[.int .u8 0, .int .u64 0, .slice none 0 0]) w := by kernel_rfl
section
variable {w0 wr w' : World} {ts : List Thing} {F I : List Nat} {gb W room : Nat} {L : List PNode}
/-- What occur answers. -/
def OccEnd (w0 : World) (F I : List Nat) (gb W room : Nat) (L : List PNode) (ts : List Thing) (us : List Int) (e : Ending) (w' : World) : Prop :=
  ∃ mb f, e = .returned (.tuple #[.map (some mb), .int .i64 0]) ∧ NodeF L (occS L us) f ∧ Lab w0 w' (Thing.mapf 3 .i64 mb f (cntS L (occS L us)) :: Thing.graph F I gb W room L :: ts)
def OccPost (w0 wr : World) (F I : List Nat) (gb W room : Nat) (L : List PNode) (ts : List Thing) (us : List Int) (e : Ending) (w' : World) : Prop :=
  (InL L us → OccEnd w0 F I gb W room L ts us e w') ∧ (¬ InL L us → e = .returned (.tuple #[.map none, .int .i64 3]) ∧ wr = w')
set_option maxRecDepth 100000 in
theorem occur_any (h : Lab w0 wr (Thing.graph F I gb W room L :: ts)) (v : Value) (us : List Int) (hv : SliceOf wr .i64 v us) (hn : us.length ≤ 900000000) :
    Calls Tryz.prog 64 #[.pointer (some ⟨gb, 0, none⟩), v] wr (OccPost w0 wr F I gb W room L ts us) := by
  have hll : L.length ≤ 1048576 := by have := h.gr.len; have := h.gr.r2; omega
  have hwf := h.gr.wf
  obtain ⟨va, n, vc, rfl, hvn, -⟩ := hv.parts
  have hlen : Calls Tryz.prog 22 #[.pointer (some ⟨gb, 0, none⟩)] wr fun e w' => e = .returned (.int .i64 L.length) ∧ wr = w' := len_any h.gr
  have HL := Lib.hid h; have HV := Lib.hid (And.intro hv hvn); have HLEN := Lib.hid hlen; have HWF := Lib.hid hwf
  have hn' : n ≤ 900000000 := by omega
  clear h hv hvn hlen hn hwf
  go_enter Tryz.func64, Tryz.ntmps64
  go_wp2
  go_step3
  go_wp2
  obtain ⟨w1, hw1⟩ : ∃ w1, w1 = wr := ⟨_, rfl⟩
  have HW1 := Lib.hid hw1
  clear hw1
  go_loopw [19] (fun i wx => ∃ k : Nat, k ≤ n ∧ i = .int .i64 k ∧ wx = w1 ∧ InL L (us.take k)) (fun i _ => n - (intOf i).toNat)
  case atStart => exact ⟨0, by omega, rfl, HW1.out.symm, by simp [InL]⟩
  case round =>
    obtain ⟨k, hk, rfl, hwx, hin⟩ := hrel
    have hwx2 := hwx.trans HW1.out
    clear hwx
    subst hwx2
    by_cases hlt : k < n
    · have hlt' : (k : Int) < (n : Int) := by omega
      obtain ⟨b, off, x, rfl, hc, hx⟩ := HV.out.1.parts' hlt
      have hnext : us.take (k + 1) = us.take k ++ [x] := by rw [List.take_add_one, hx]; rfl
      have hmem := List.mem_of_getElem? hx
      have HN := Lib.hid (And.intro hin (And.intro hnext hmem))
      clear hin hnext hmem hx
      by_cases hxr : 0 ≤ x ∧ x < (L.length : Int)
      · have x0 : ¬ x < 0 := by omega
        have x1 : ¬ (L.length : Int) ≤ x := by omega
        go_wp2_with (go_at_call 22; refine HLEN.out.mono ?_; rintro e w2 ⟨rfl, rfl⟩)
        go_roundw
        case rel =>
          refine ⟨k + 1, by omega, by go_num, HW1.out.symm, ?_⟩
          rw [HN.out.2.1]
          intro t ht
          rcases List.mem_append.1 ht with h1 | h1
          · exact HN.out.1 t h1
          · rw [List.mem_singleton.1 h1]; exact hxr
        case measure => simp [intOf]; omega
      · have hno : ¬ InL L us := fun h => hxr (h x HN.out.2.2)
        by_cases x0 : x < 0
        · go_wp2_with (go_at_call 22; refine HLEN.out.mono ?_; rintro e w2 ⟨rfl, rfl⟩)
          rw [Exit.noGoto_ret]
          go_ret2
          exact ⟨fun h => absurd h hno, fun _ => ⟨rfl, rfl⟩⟩
        · have x1 : (L.length : Int) ≤ x := by omega
          go_wp2_with (go_at_call 22; refine HLEN.out.mono ?_; rintro e w2 ⟨rfl, rfl⟩)
          rw [Exit.noGoto_ret]
          go_ret2
          exact ⟨fun h => absurd h hno, fun _ => ⟨rfl, rfl⟩⟩
    · obtain rfl : k = n := by omega
      rw [List.take_of_length_le (by rw [HV.out.2]; exact Nat.le_refl _)] at hin
      have HIN := Lib.hid hin
      clear hin hk hlt
      obtain ⟨mb, hmb⟩ : ∃ mb, wr.heap.size = mb := ⟨_, rfl⟩
      have hl2 := HL.out.new_map 3 .i64
      rw [hmb] at hl2
      have HL2 := Lib.hid hl2
      have hsl := HV.out.1.below (below_new wr (.map #[] 0))
      have HSL := Lib.hid hsl
      have hmm := @run_makeMap Tryz.prog
      clear hl2 hsl
      go_upto_region 10 with fail
      clear hmb hmm
      refine wp_abs (fun w2 => Lab w0 w2 (Thing.mapf 3 .i64 mb (fun _ => none) 0 :: Thing.graph F I gb W room L :: ts) ∧ SliceOf w2 .i64 (.slice va k vc) us) ⟨HL2.out, HSL.out⟩ ?_
      clear HL2 HSL HLEN
      rintro w2 ⟨hl2, hsl⟩
      have hul : us.length ≤ 1000000000 := by have := HV.out.2; omega
      have HL2 := Lib.hid hl2
      clear hl2
      go_wp2_with (at_builtin; refine wpList_append_copy 24 3 .i64 8 _ _ _ us hsl _ _ rfl rfl Tryz.underlying24 Tryz.infoI64 (by decide) rfl rfl hul (Nat.le_refl _) ?_; intro v3 w3 hown3 hb3)
      go_step3
      have hl3 := (HL2.out.new_ints hb3 hown3).swap
      obtain ⟨a3, m3, c3, rfl⟩ := hown3.val
      obtain rfl : m3 = us.length := hl3.swap.ints_cap.2
      have HL3 := Lib.hid hl3
      clear hl3 hown3 hb3 hsl HL2
      have hul9 : us.length ≤ 900000000 := by have := HV.out.2; omega
      go_wp2
      go_loopw [9] (fun v wx => ∃ st a c S f, v = .slice a st.length c ∧ SupInv L us S st ∧ NodeF L S f ∧ st.length ≤ us.length + 3 * cntS L S ∧ Lab w0 wx (Thing.mapf 3 .i64 mb f (cntS L S) :: Thing.ints (.slice a st.length c) st :: Thing.graph F I gb W room L :: ts)) (fun v wx => supMeas L.length mb v wx)
      case atStart => exact ⟨us, a3, c3, fun _ => false, fun _ => none, rfl, SupInv.start HIN.out, NodeF.start L, by omega, by rw [cntS_none]; exact HL3.out⟩
      case round =>
        obtain ⟨st, a, c, S, f, rfl, hinv, hf, hst, hl⟩ := hrel
        clear HL3
        have hmf : MapF Tryz.prog 3 .i64 wr mb f (cntS L S) := hl.mapf
        rcases List.eq_nil_or_concat st with rfl | ⟨xs, t, rfl⟩
        · have hS := hinv.end_
          subst hS
          have HF := Lib.hid hf; have HL4 := Lib.hid hl
          clear hf hl hinv hmf
          go_wp2
          rw [Exit.noGoto_ret]
          go_ret2
          exact ⟨fun _ => ⟨mb, f, rfl, HF.out, HL4.out.swap.drop⟩, fun h => absurd HIN.out h⟩
        · rw [List.concat_eq_append] at hinv hst hl ⊢
          have hlen1 : (xs ++ [t]).length = xs.length + 1 := by simp
          rw [hlen1] at hst hl ⊢
          have ht := hinv.st_in t (by simp)
          obtain ⟨tn, rfl⟩ := Int.eq_ofNat_of_zero_le ht.1
          have htl : tn < L.length := by omega
          have hown : OwnInts wr 0 3 .i64 (.slice a (xs.length + 1) c) (xs ++ [(tn : Int)]) := hl.second
          obtain ⟨g, cap, e⟩ := own_some' hown (by simp)
          simp only [Value.slice.injEq] at e
          obtain ⟨rfl, -, rfl⟩ := e
          have hcap := (hl.swap.ints_cap).1
          have hcap' : (xs.length : Int) + 1 ≤ (c : Int) := by omega
          have d0 := (OwnInts.slice hown).at (i := xs.length) (q := (tn : Int)) (by simp)
          rw [Nat.zero_add] at d0
          have hcs := cntS_le (L := L) (S := S)
          have hxl : xs.length ≤ 910000000 := by omega
          have hlp := hl.swap.pop
          have hmeas : supMeas L.length mb (.slice (some ⟨g, 0, none⟩) (xs.length + 1) c) wr = 4 * (L.length - cntS L S) + (xs.length + 1) := by unfold supMeas; rw [mlen_of hmf]; rfl
          cases hS : S tn with
          | true =>
            obtain ⟨n, a', m', c', -, hfn⟩ := hf.has tn hS
            have hask := hmf.hit (T := 121) (E := 88) Tryz.underlying3 Tryz.underlying121 (k := (tn : Int)) (wf_i64 (by omega) (by omega)) hfn true
            have HINV := Lib.hid (hinv.skip (by rw [Int.toNat_natCast]; exact hS)); have HF := Lib.hid hf; have HL4 := Lib.hid hlp.swap; have HM := Lib.hid hmeas
            clear hinv hf hl hlp hmf hown hmeas hfn hS ht
            go_wp2
            go_roundw
            case rel => exact ⟨xs, _, c, S, f, rfl, HINV.out, HF.out, by omega, HL4.out.later (below_new _ _)⟩
            case measure =>
              have h2 := fun o => supMeas_of (N := L.length) (HL4.out.later (below_new wr o)).mapf (some ⟨g, 0, none⟩) xs.length c
              rw [HM.out, h2]
              omega
          | false =>
            have hfn : f (tn : Int) = none := by
              cases e : f (tn : Int) with
              | none => rfl
              | some v =>
                obtain ⟨j, h1, h2⟩ := hf.only _ _ e
                obtain rfl : tn = j := by omega
                rw [hS] at h2; cases h2
            have hask := hmf.miss (T := 121) (E := 88) Tryz.underlying3 Tryz.underlying121 (zeroNode _) (k := (tn : Int)) (wf_i64 (by omega) (by omega)) hfn true
            obtain ⟨nd, hi⟩ : ∃ nd, L[tn]? = some nd := ⟨_, List.getElem?_eq_getElem htl⟩
            have hok := HWF.out.ok nd (List.mem_of_getElem? hi)
            have hcm := cntS_mark hS htl
            have hcm2 := cntS_le (L := L) (S := mark S tn)
            obtain ⟨p, hp⟩ : ∃ p, wr.heap.size = p := ⟨_, rfl⟩
            have hl4 := hlp.swap.alloc #[.int .u8 0, .int .u64 0, .slice none 0 0] 88
            rw [hp] at hl4
            have hvis := hinv.visit HWF.out
            rw [Int.toNat_natCast, argsOf_at hi] at hvis
            have HINV := Lib.hid hvis; have HF := Lib.hid hf; have HL4 := Lib.hid hl4.drop; have HM := Lib.hid hmeas; have HI := Lib.hid hi; have HOK := Lib.hid hok; have HCM := Lib.hid hcm; have HS := Lib.hid hS
            clear hinv hf hl hlp hl4 hmf hown hmeas hfn hS ht hvis hi hok hcm
            go_upto_region 16 with fail
            clear hp hask d0
            refine wp_abs (fun w5 => Lab w0 w5 (Thing.mapf 3 .i64 mb f (cntS L S) :: Thing.ints (.slice (some ⟨g, 0, none⟩) xs.length c) xs :: Thing.graph F I gb W room L :: ts)) HL4.out ?_
            clear HL4
            rintro w5 hl5
            have HL5 := Lib.hid hl5.rot3
            clear hl5
            go_wp2_with fail
            go_at_call 67
            refine (HL5.out.node_at tn nd HI.out).mono ?_
            rintro e w6 ⟨aa, am, ac, rfl, hl6⟩
            obtain ⟨q, hq⟩ : ∃ q, w6.heap.size = q := ⟨_, rfl⟩
            have hl7 := hl6.alloc #[.int .u8 nd.1, .int .u64 nd.2.1, .slice aa am ac] 88
            rw [hq] at hl7
            have HL7 := Lib.hid hl7.rot4
            clear hl6 hl7 HL5
            go_upto_region 17 with fail
            clear hq
            refine wp_abs (fun w7 => Lab w0 w7 (Thing.mapf 3 .i64 mb f (cntS L S) :: Thing.box q 88 #[.int .u8 nd.1, .int .u64 nd.2.1, .slice aa am ac] :: Thing.graph F I gb W room L :: Thing.ints (.slice aa am ac) nd.2.2 :: Thing.ints (.slice (some ⟨g, 0, none⟩) xs.length c) xs :: ts)) HL7.out ?_
            clear HL7
            rintro w7 hl7
            obtain ⟨x0, x1, x2⟩ := cells3 hl7.box2
            obtain ⟨hput, hl8⟩ := Lab.mput (T := 121) (E := 88) (k := (tn : Int)) hl7 Tryz.underlying3 Tryz.underlying121 (wf_i64 (by omega) (by omega)) (.agg #[.int .u8 nd.1, .int .u64 nd.2.1, .slice aa am ac])
            have HL8 := Lib.hid hl8
            clear hl7 hl8
            go_upto_region 18 with fail
            clear hput x0 x1 x2
            refine wp_abs (fun w8 => Lab w0 w8 (Thing.mapf 3 .i64 mb (fun j => if j = (tn : Int) then some (.agg #[.int .u8 nd.1, .int .u64 nd.2.1, .slice aa am ac]) else f j) (cntS L (mark S tn)) :: Thing.box q 88 #[.int .u8 nd.1, .int .u64 nd.2.1, .slice aa am ac] :: Thing.graph F I gb W room L :: Thing.ints (.slice aa am ac) nd.2.2 :: Thing.ints (.slice (some ⟨g, 0, none⟩) xs.length c) xs :: ts)) ?_ ?_
            · have hfn : f (tn : Int) = none := by
                cases e : f (tn : Int) with
                | none => rfl
                | some v =>
                  obtain ⟨j, h1, h2⟩ := HF.out.only _ _ e
                  obtain rfl : tn = j := by omega
                  rw [HS.out] at h2; cases h2
              have := HL8.out
              rw [hfn] at this
              rw [HCM.out]
              exact this
            clear HL8
            rintro w8 hl8
            obtain ⟨x0, x1, x2⟩ := cells3 hl8.box2
            have hsrc : SliceOf w8 .i64 (.slice aa am ac) nd.2.2 := OwnInts.slice hl8.fourth
            have hxa : xs.length + nd.2.2.length ≤ 1000000000 := by have := HOK.out.2.2; have := aryN_le nd.1; omega
            have HL9 := Lib.hid hl8.rot5
            clear hl8 x0 x1
            go_wp2_with (at_builtin; refine wpList_append_lab (.tmp 65) (.tmp 67) HL9.out hsrc rfl rfl rfl rfl hxa ?_; intro a9 c9 w9 hl9)
            have HL10 := Lib.hid (hl9.swap.subl (ts' := Thing.mapf 3 .i64 mb (fun j => if j = (tn : Int) then some (.agg #[.int .u8 nd.1, .int .u64 nd.2.1, .slice aa am ac]) else f j) (cntS L (mark S tn)) :: Thing.ints (.slice a9 (xs ++ nd.2.2).length c9) (xs ++ nd.2.2) :: Thing.graph F I gb W room L :: ts) (.cons_cons _ (.cons_cons _ (.cons _ (.cons_cons _ (.cons _ (List.Sublist.refl _)))))))
            clear hl9 HL9 hsrc x2
            go_roundw
            case rel => exact ⟨xs ++ nd.2.2, a9, c9, mark S tn, _, by rw [List.length_append], HINV.out, HF.out.put HI.out aa am ac, by rw [List.length_append, HCM.out]; have := HOK.out.2.2; have := aryN_le nd.1; omega, HL10.out⟩
            case measure =>
              have h2 := supMeas_of (N := L.length) HL10.out.mapf a9 (xs ++ nd.2.2).length c9
              rw [List.length_append] at h2
              rw [HM.out, h2, HCM.out]
              rw [HCM.out] at hcm2
              have := HOK.out.2.2
              have := aryN_le nd.1
              omega
end
end Go.Proofs.YteamnchoddegpaaGreatDoor
