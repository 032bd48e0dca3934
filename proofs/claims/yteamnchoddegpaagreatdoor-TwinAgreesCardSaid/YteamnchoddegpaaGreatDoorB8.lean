/- EvalB, EvalC, EvalF, MapR, Sets: joined by wip/bundle.py. -/
import Derived.Test.YteamnchoddegpaaGreatDoorB1
import Derived.Test.YteamnchoddegpaaGreatDoorB2
import Derived.Test.YteamnchoddegpaaGreatDoorB3
import Derived.Test.YteamnchoddegpaaGreatDoorB4
import Derived.Test.YteamnchoddegpaaGreatDoorB5
import Derived.Test.YteamnchoddegpaaGreatDoorB6
import Derived.Test.YteamnchoddegpaaGreatDoorB7
import Derived.Maps.RangeRun
import Derived.Maps.RangeWalk
import Derived.Below
import Derived.BigQuiet
namespace Go.Proofs.YteamnchoddegpaaGreatDoor
open Go.RowKit Go.Maps
set_option maxHeartbeats 800000
/-- All of these are terms. -/
def AllIn (L : List PNode) (ts : List Int) : Prop := ∀ t ∈ ts, (0 : Int) ≤ t ∧ t < (L.length : Int)
def allV (W : Nat) (vals : List Int) (L : List PNode) (ts : List Int) : List Int := ts.map fun t => val W vals L t.toNat
set_option maxRecDepth 100000 in
theorem Tryz.infoNode : (Tryz.prog.info? 88).map (fun i => (i.zero, i.size, i.bytes)) = some (some (.agg #[.int .u8 0, .int .u64 0, .slice none 0 0]), 3, 40) := by kernel_rfl
theorem Tryz.infoBool : (Tryz.prog.info? 4).map (fun i => (i.zero, i.size, i.bytes)) = some (some (.bool false), 1, 1) := by kernel_rfl
theorem make_nodes (M : Nat) (hM : M ≤ 1048576) (w : World) : (Instr.makeSlice 73 (.int .i64 (M : Int)) (.int .i64 (M : Int))).run Tryz.prog w = .ok (.slice (some ⟨w.heap.size, 0, none⟩) M M) (w.alloc (.cells (madeCells #[.int .u8 0, .int .u64 0, .slice none 0 0] (M * 3)) 88)) := by
  obtain ⟨i0, hi, hz, hs, hb⟩ := info_parts Tryz.infoNode
  have h := run_make (P := Tryz.prog) w 73 88 i0 _ Tryz.underlying73 hi hz .i64 .i64 M M (by omega) (by omega) (by rw [hb]; omega) (by omega)
  have hzc : (Value.agg #[.int .u8 0, .int .u64 0, .slice none 0 0]).cells = #[.int .u8 0, .int .u64 0, .slice none 0 0] := by simp [Value.cells]
  rw [hs, hzc, Int.toNat_natCast] at h
  exact h
set_option maxRecDepth 100000 in
theorem all_bad {w : World} {F I : List Nat} {gb W room : Nat} {L : List PNode} (h : Gr w 0 F I gb W room L) (ts : List Int) (v vv : Value) (hv : SliceOf w .i64 v ts) (hvv : ∃ a n c, vv = .slice a n c) (hn : ts.length ≤ 9223372036854775807) (hb : ¬ AllIn L ts) :
    Calls Tryz.prog 41 #[.pointer (some ⟨gb, 0, none⟩), v, vv] w fun e w' => e = .returned (.tuple #[.slice none 0 0, .int .i64 3]) ∧ Below w.heap.size w w' := by
  obtain ⟨av, nv, cv, rfl⟩ := hvv
  obtain ⟨a, n, cap, rfl, hln, hcell⟩ := hv.parts
  have hn' : n ≤ 9223372036854775807 := by omega
  have hb1 := below_new w (.cells #[.slice av nv cv] 25)
  have HB1 := Lib.hid hb1; have HC := Lib.hid hcell; have HBAD := Lib.hid hb; have HG := Lib.hid h; have HLN := Lib.hid hln
  clear hb1 hcell hb h hln hn hv
  go_enter Tryz.func41, Tryz.ntmps41
  go_upto_region 1 with fail
  refine wp_abs (fun w1 => Below w.heap.size w w1) HB1.out ?_
  rintro w1 hb1
  have HG1 := Lib.hid (HG.out.later hb1)
  have HB2 := Lib.hid hb1
  clear hb1
  have hll : L.length ≤ 1048576 := by have := HG1.out.len; have := HG1.out.r2; omega
  go_wp2
  go_loop [8, 29] (fun s i => ∃ k : Nat, k ≤ n ∧ i = .int .i64 k ∧ (∃ last : Int, s = .int .i64 last ∧ -1 ≤ last ∧ last < (L.length : Int)) ∧ ∀ t ∈ ts.take k, (0 : Int) ≤ t ∧ t < (L.length : Int)) (fun _ i => n - (intOf i).toNat)
  case atStart => exact ⟨0, by omega, rfl, ⟨-1, rfl, by omega, by omega⟩, by simp⟩
  case round =>
    obtain ⟨k, hk, rfl, ⟨last, rfl, hl1, hl2⟩, hall⟩ := hrel
    have HALL := Lib.hid hall
    clear hall
    by_cases hlt : k < n
    · obtain ⟨b, off, t, rfl, hc, ht⟩ := HC.out k hlt
      have hc1 := cell_later HB2.out hc
      have HT := Lib.hid ht
      clear hc ht
      by_cases t0 : t < 0
      · go_wp2
        go_ret2
        exact ⟨rfl, HB2.out⟩
      · by_cases t1 : (L.length : Int) ≤ t
        · go_wp2_with (go_at_call 22; refine (len_any HG1.out).mono ?_; rintro e w2 ⟨rfl, rfl⟩)
          go_ret2
          exact ⟨rfl, HB2.out⟩
        · go_wp2_with (go_at_call 22; refine (len_any HG1.out).mono ?_; rintro e w2 ⟨rfl, rfl⟩)
          go_round
          case rel =>
            refine ⟨k + 1, by omega, by go_num, ⟨if last < t then t else last, rfl, by split <;> omega, by split <;> omega⟩, fun u hu => ?_⟩
            rw [← take_snoc' HT.out] at hu
            rcases List.mem_append.1 hu with hu | hu
            · exact HALL.out u hu
            · simp at hu; subst hu; omega
          case measure => simp [intOf]; omega
    · obtain rfl : k = n := by omega
      exact absurd (by rw [List.take_of_length_le (by rw [HLN.out]; exact Nat.le_refl _)] at HALL; exact HALL.out) HBAD.out
set_option maxRecDepth 100000 in
set_option maxHeartbeats 3200000 in
theorem all_ok {w : World} {F I : List Nat} {gb W room : Nat} {L : List PNode} (h : Gr w 0 F I gb W room L) (ts vals : List Int) (v vv : Value) (hv : SliceOf w .i64 v ts) (hvv : SliceOf w .u64 vv vals) (hn : ts.length ≤ 1000000000) (hvl : vals.length ≤ 9223372036854775807) (hvu : U64s vals) (hb : AllIn L ts) :
    Calls Tryz.prog 41 #[.pointer (some ⟨gb, 0, none⟩), v, vv] w fun e w' => ∃ a m c, e = .returned (.tuple #[.slice a m c, .int .i64 0]) ∧ OwnInts w' w.heap.size 43 .u64 (.slice a m c) (allV W vals L ts) ∧ Below w.heap.size w w' := by
  obtain ⟨av, nv, cv, rfl, -, -⟩ := hvv.parts
  obtain ⟨a, n, cap, rfl, hln, hcell⟩ := hv.parts
  have hn' : n ≤ 1000000000 := by omega
  obtain ⟨vb, hvb⟩ : ∃ vb, w.heap.size = vb := ⟨_, rfl⟩
  have hl0 := (Lab.nil (Below.refl w.heap.size w)).alloc #[.slice av nv cv] 25
  rw [hvb] at hl0
  have HC := Lib.hid hcell; have HALL := Lib.hid hb; have HG := Lib.hid h; have HLN := Lib.hid hln; have HVV := Lib.hid hvv; have HL0 := Lib.hid hl0; have HVL := Lib.hid hvl; have HVU := Lib.hid hvu
  clear hcell hb h hln hn hv hvv hl0 hvl hvu
  go_enter Tryz.func41, Tryz.ntmps41
  go_upto_region 1 with fail
  clear hvb
  refine wp_abs (fun w1 => Lab w w1 [Thing.box vb 25 #[.slice av nv cv]]) HL0.out ?_
  rintro w1 hl1
  have HG1 := Lib.hid (HG.out.later hl1.below)
  have HL1 := Lib.hid hl1
  clear hl1
  have hll : L.length ≤ 1048576 := by have := HG1.out.len; have := HG1.out.r2; omega
  go_wp2
  go_loop [8, 29] (fun s i => ∃ k : Nat, k ≤ n ∧ i = .int .i64 k ∧ ∃ last : Int, s = .int .i64 last ∧ -1 ≤ last ∧ last < (L.length : Int) ∧ ∀ t ∈ ts.take k, t ≤ last) (fun _ i => n - (intOf i).toNat)
  case atStart => exact ⟨0, by omega, rfl, -1, rfl, by omega, by omega, by simp⟩
  case round =>
    obtain ⟨k, hk, rfl, last, rfl, hl1, hl2, hall⟩ := hrel
    have HLAST := Lib.hid hall
    clear hall
    by_cases hlt : k < n
    · obtain ⟨b, off, t, rfl, hc, ht⟩ := HC.out k hlt
      have hc1 := cell_later HL1.out.below hc
      have htin := HALL.out t (List.mem_of_getElem? ht)
      have t0 : ¬ t < 0 := by omega
      have t1 : ¬ (L.length : Int) ≤ t := by omega
      have HT := Lib.hid ht
      clear hc ht htin
      go_wp2_with (go_at_call 22; refine (len_any HG1.out).mono ?_; rintro e w2 ⟨rfl, rfl⟩)
      go_round
      case rel =>
        refine ⟨k + 1, by omega, by go_num, if last < t then t else last, rfl, by split <;> omega, by split <;> omega, fun u hu => ?_⟩
        rw [← take_snoc' HT.out] at hu
        rcases List.mem_append.1 hu with hu | hu
        · have := HLAST.out u hu; split <;> omega
        · simp at hu; subst hu; split <;> omega
      case measure => simp [intOf]; omega
    · obtain rfl : k = n := by omega
      rw [List.take_of_length_le (by rw [HLN.out]; exact Nat.le_refl _)] at HLAST
      obtain ⟨M, hM⟩ : ∃ M : Nat, last + 1 = (M : Int) := ⟨(last + 1).toNat, by omega⟩
      obtain rfl : last = (M : Int) - 1 := by omega
      have hML : M ≤ L.length := by omega
      have hmk1 := make_nodes M (by omega)
      have hmk2 := run_make_row' (P := Tryz.prog) 84 4 (.bool false) 1 Tryz.underlying84 Tryz.infoBool rfl .i64 .i64 M (by omega) (by omega)
      obtain ⟨nb, hnb⟩ : ∃ nb, w1.heap.size = nb := ⟨_, rfl⟩
      have hl2 := (HL1.out.make (n := M * 3) (madeCells #[.int .u8 0, .int .u64 0, .slice none 0 0] (M * 3)) 88 _ (size_madeCells _ _) (fun i hi => madeCells_at _ _ i hi))
      have hl3 := (hl2.say (s' := Thing.taken [] nb M L (fun _ => false) ((M : Int) - 1) ((M : Int) - 1)) (by rw [← hnb]; rfl) (fun _ hk => hk) (fun hh => Taken.start (by rw [← hnb]; exact hh) (shape_made M))).make (n := M) (madeCells #[.bool false] M) 4 (fun _ => .bool false) (size_madeCells _ _) (fun i hi => by rw [madeCells_at _ _ i hi]; simp [Nat.mod_one])
      rw [World.size_alloc, hnb] at hl3
      have HL3 := Lib.hid hl3
      clear hl2 hl3
      go_upto_region 13 with fail
      clear hnb
      refine wp_abs (fun w2 => Lab w w2 [Thing.fn (nb + 1) 4 M (fun _ => .bool false), Thing.taken [] nb M L (fun _ => false) ((M : Int) - 1) ((M : Int) - 1), Thing.box vb 25 #[.slice av nv cv]]) HL3.out ?_
      rintro w2 hl
      have HL4 := Lib.hid hl
      clear hl HL1 HL3 hmk1 hmk2 HG1
      go_wp2
      go_loopw [53] (fun i wr => ∃ j : Nat, j ≤ k ∧ i = .int .i64 j ∧ ∃ need : Nat → Bool, (∀ t ∈ ts.take j, need t.toNat = true) ∧ Lab w wr [Thing.fn (nb + 1) 4 M (fun i => .bool (need i)), Thing.taken [] nb M L need ((M : Int) - 1) ((M : Int) - 1), Thing.box vb 25 #[.slice av nv cv]]) (fun i _ => k - (intOf i).toNat)
      case atStart => exact ⟨0, by omega, rfl, fun _ => false, by simp, HL4.out⟩
      case round =>
        obtain ⟨j, hj, rfl, need, hnd, hl⟩ := hrel
        by_cases hlt2 : j < k
        · obtain ⟨b, off, t, rfl, hc, ht⟩ := HC.out j hlt2
          have hc1 := cell_later hl.below hc
          have hmem := List.mem_of_getElem? ht
          obtain ⟨z, rfl⟩ := Int.eq_ofNat_of_zero_le (HALL.out t hmem).1
          have hzM : (z : Int) < (M : Int) := by have := HLAST.out _ hmem; omega
          have hcl := hl.fn1.cell (i := z) (by omega)
          have hfr := hl.fn1.frozen z
          have HL5 := Lib.hid hl; have HND := Lib.hid hnd; have HT := Lib.hid ht
          clear hl hnd ht hc hmem
          go_wp2
          go_roundw
          case rel =>
            have hl6 := (HL5.out.set z (.bool true)).fn_congr (g := fun i => .bool (if i = z then true else need i)) (fun i _ => by by_cases e : i = z <;> simp [e])
            refine ⟨j + 1, by omega, by go_num, fun i => if i = z then true else need i, fun u hu => ?_, (hl6.swap.taken_congr (fun i hi => ?_) (fun i hi => ?_)).swap⟩
            · rw [← take_snoc' HT.out] at hu
              rcases List.mem_append.1 hu with hu | hu
              · have := HND.out u hu; simp [this]
              · simp at hu; subst hu; simp
            · rw [if_neg (by omega)]
            · simp [hi]
          case measure => simp [intOf]; omega
        · obtain rfl : j = k := by omega
          rw [List.take_of_length_le (by rw [HLN.out]; exact Nat.le_refl _)] at hnd
          have HL5 := Lib.hid hl; have HND := Lib.hid hnd
          clear hl hnd
          go_wp2
          go_loopw [15] (fun i wr => ∃ c : Int, -1 ≤ c ∧ c < (M : Int) ∧ i = .int .i64 c ∧ ∃ need I, (∀ t ∈ ts, need t.toNat = true) ∧ Lab w wr [Thing.fn (nb + 1) 4 M (fun i => .bool (need i)), Thing.taken I nb M L need c c, Thing.box vb 25 #[.slice av nv cv]]) (fun i _ => (intOf i + 1).toNat)
          case atStart => exact ⟨(M : Int) - 1, by omega, by omega, rfl, need, [], HND.out, HL5.out⟩
          case round =>
            obtain ⟨c, hc0, hcM, rfl, need, I2, hnd, hl⟩ := hrel
            by_cases hcn : 0 ≤ c
            · obtain ⟨z, rfl⟩ := Int.eq_ofNat_of_zero_le hcn
              have hcl := hl.fn1.cell (i := z) (by omega)
              obtain ⟨nd, hi⟩ : ∃ nd, L[z]? = some nd := ⟨_, List.getElem?_eq_getElem (by omega)⟩
              by_cases hne : need z = true
              · rw [hne] at hcl
                have HL6 := Lib.hid hl; have HND2 := Lib.hid hnd; have HI := Lib.hid hi; have HNE := Lib.hid hne
                have HGx := Lib.hid (HG.out.later hl.below)
                clear hl hnd hi hne
                go_wp2_with fail
                go_at_call 67
                refine (node_at HGx.out z nd HI.out).mono ?_
                rintro e w3 ⟨va, rfl, hva, hb3⟩
                obtain ⟨aa, am, ac, rfl⟩ := hva.val
                have hl7 := (HL6.out.new_ints hb3 hva).rot3
                obtain ⟨f0, hf0, -⟩ := hl7.taken
                have q0 := hf0.cell (i := z * 3) (by omega)
                have q1 := hf0.cell (i := z * 3 + 1) (by omega)
                have q2 := hf0.cell (i := z * 3 + 2) (by omega)
                have p0 := hf0.frozen (z * 3)
                have p1 := hf0.frozen (z * 3 + 1)
                have p2 := hf0.frozen (z * 3 + 2)
                have HL7 := Lib.hid hl7
                clear hl7 hf0 hva hb3
                go_upto_region 23 with fail
                refine wp_abs (fun w4 => ∃ I, Lab w w4 [Thing.taken I nb M L need ((z : Int) - 1) z, Thing.fn (nb + 1) 4 M (fun i => .bool (need i)), Thing.box vb 25 #[.slice av nv cv]]) ⟨_, HL7.out.taken_store HI.out (by omega)⟩ ?_
                rintro w4 ⟨I3, hl8⟩
                obtain ⟨vx, -, -, c2, hvx, -⟩ := hl8.taken.at (by omega) (by omega) HNE.out HI.out
                obtain ⟨ax, mx, cx, rfl, hmx, hcx⟩ := hvx.slice.parts
                have hmx3 : mx ≤ 3 := by
                  have := (HG.out.wf.ok nd (List.mem_of_getElem? HI.out)).2.2
                  have := aryN_le nd.1
                  omega
                have hargs := HG.out.wf.args z nd HI.out
                have HL8 := Lib.hid hl8; have HVX := Lib.hid hvx; have HMX := Lib.hid hmx; have HCX := Lib.hid hcx; have HARGS := Lib.hid hargs
                clear hl8 hvx hmx hcx q0 q1 q2 p0 p1 p2 hargs
                go_wp2
                go_loopw [85] (fun i wr => ∃ y : Nat, y ≤ mx ∧ i = .int .i64 y ∧ ∃ need' : Nat → Bool, (∀ i, need i = true → need' i = true) ∧ (∀ i, z ≤ i → need' i = need i) ∧ (∀ u ∈ nd.2.2.take y, need' u.toNat = true) ∧ KeepI w4 wr ∧ Lab w wr [Thing.fn (nb + 1) 4 M (fun i => .bool (need' i)), Thing.taken I3 nb M L need' ((z : Int) - 1) z, Thing.box vb 25 #[.slice av nv cv]]) (fun i _ => mx - (intOf i).toNat)
                case atStart => exact ⟨0, by omega, rfl, need, fun _ h => h, fun _ _ => rfl, by simp, KeepI.refl _, HL8.out.swap⟩
                case round =>
                  obtain ⟨y, hy, rfl, need', n1, n2, n3, hki, hl⟩ := hrel
                  by_cases hlt3 : y < mx
                  · obtain ⟨b, off, u, rfl, hc, hu⟩ := ((HVX.out.ints hki).slice).parts' hlt3
                    have hmem := List.mem_of_getElem? hu
                    obtain ⟨g, rfl⟩ := Int.eq_ofNat_of_zero_le (HARGS.out u hmem).1
                    have hgz : (g : Int) < (z : Int) := (HARGS.out _ hmem).2
                    have hgM : (g : Int) < (M : Int) := by omega
                    have hcl2 := hl.fn1.cell (i := g) (by omega)
                    have hfr2 := hl.fn1.frozen g
                    have HL9 := Lib.hid hl; have HN := Lib.hid (And.intro n1 (And.intro n2 n3)); have HU := Lib.hid hu; have HKI := Lib.hid hki
                    clear hl n1 n2 n3 hu hmem hki
                    go_wp2
                    go_roundw
                    case rel =>
                      have hl6 := (HL9.out.set g (.bool true)).fn_congr (g := fun i => .bool (if i = g then true else need' i)) (fun i _ => by by_cases e : i = g <;> simp [e])
                      refine ⟨y + 1, by omega, by go_num, fun i => if i = g then true else need' i, fun i hi => ?_, fun i hi => ?_, fun u hu => ?_, HKI.out.trans (KeepI.set HL9.out.fn1 (by decide) _ _), (hl6.swap.taken_congr (fun i hi => ?_) (fun i hi => ?_)).swap⟩
                      · simp [HN.out.1 i hi]
                      · show (if i = g then true else need' i) = need i
                        rw [if_neg (by omega)]; exact HN.out.2.1 i hi
                      · rw [← take_snoc' HU.out] at hu
                        rcases List.mem_append.1 hu with hu | hu
                        · have := HN.out.2.2 u hu; simp [this]
                        · simp at hu; subst hu; simp
                      · rw [if_neg (by omega)]
                      · simp [hi]
                    case measure => simp [intOf]; omega
                  · obtain rfl : y = mx := by omega
                    rw [List.take_of_length_le (by rw [HMX.out]; exact Nat.le_refl _)] at n3
                    have HL9 := Lib.hid hl; have HN := Lib.hid (And.intro n1 (And.intro n2 n3))
                    clear hl n1 n2 n3 hki
                    go_wp2
                    go_roundw
                    case rel => exact ⟨(z : Int) - 1, by omega, by omega, by go_num, need', I3, fun t ht => HN.out.1 _ (HND2.out t ht), (HL9.out.swap.taken_close HI.out HN.out.2.2).swap⟩
                    case measure => simp [intOf] <;> omega
              · rw [Bool.not_eq_true] at hne
                rw [hne] at hcl
                have HL6 := Lib.hid hl; have HND2 := Lib.hid hnd; have HNE := Lib.hid hne
                clear hl hnd hi hne
                go_wp2
                go_roundw
                case rel => exact ⟨(z : Int) - 1, by omega, by omega, by go_num, need, I2, HND2.out, (HL6.out.swap.taken_skip HNE.out).swap⟩
                case measure => simp [intOf] <;> omega
            · obtain rfl : c = -1 := by omega
              have HL6 := Lib.hid hl; have HND2 := Lib.hid hnd
              clear hl hnd
              have HGx := Lib.hid (HG.out.later HL6.out.below)
              have hmk3 := run_make_row' (P := Tryz.prog) 25 43 (.int .u64 0) 8 Tryz.underlying25 Tryz.infoU64 rfl .i64 .i64 M (by omega) (by omega)
              obtain ⟨q, hq⟩ : ∃ q, wr.heap.size = q := ⟨_, rfl⟩
              have hl7 := (HL6.out.make (n := M) (madeCells #[.int .u64 0] M) 43 (fun _ => .int .u64 0) (size_madeCells _ _) (fun i hi => by rw [madeCells_at _ _ i hi]; simp [Nat.mod_one])).alloc #[.slice (some ⟨q, 0, none⟩) M M] 25
              rw [World.size_alloc, hq] at hl7
              have HL7 := Lib.hid hl7
              clear hl7 hcM hc0 hcn
              go_upto_region 29 with fail
              clear hq
              refine wp_abs (fun w5 => Lab w w5 [Thing.box (q + 1) 25 #[.slice (some ⟨q, 0, none⟩) M M], Thing.fn q 43 M (fun _ => .int .u64 0), Thing.fn (nb + 1) 4 M (fun i => .bool (need i)), Thing.taken I2 nb M L need (-1) (-1), Thing.box vb 25 #[.slice av nv cv]]) HL7.out ?_
              rintro w5 hl5
              clear HL7 HL6 HGx hmk3
              have HGx := Lib.hid (HG.out.later hl5.below)
              obtain ⟨wb, hwb⟩ : ∃ wb, w5.heap.size = wb := ⟨_, rfl⟩
              have hl6 := hl5.alloc #[.int .i64 W] 3
              rw [hwb] at hl6
              have HL6 := Lib.hid hl6
              clear hl5 hl6
              go_upto_region 31 with (go_at_call 70; refine (width_any HGx.out).mono ?_; rintro e w2 ⟨rfl, rfl⟩)
              clear hwb
              refine wp_abs (fun w6 => Lab w w6 [Thing.box wb 3 #[.int .i64 W], Thing.box (q + 1) 25 #[.slice (some ⟨q, 0, none⟩) M M], Thing.fn q 43 M (fun _ => .int .u64 0), Thing.fn (nb + 1) 4 M (fun i => .bool (need i)), Thing.taken I2 nb M L need (-1) (-1), Thing.box vb 25 #[.slice av nv cv]]) HL6.out ?_
              rintro w6 hl6
              clear HL6
              have HL6 := Lib.hid hl6
              have s0 : w6.cell? ⟨q + 1, 0, none⟩ = some (.slice (some ⟨q, 0, none⟩) M M) := by rw [cell_of_row w6 _ 0 _ _ _ hl6.box2]; rfl
              clear hl6
              go_wp2
              clear s0
              go_loopw [101] (fun i wr => ∃ y : Nat, y ≤ M ∧ i = .int .i64 y ∧ Lab w wr [Thing.fn q 43 M (fun i => .int .u64 (if i < y ∧ need i = true then val W vals L i else 0)), Thing.box wb 3 #[.int .i64 W], Thing.box (q + 1) 25 #[.slice (some ⟨q, 0, none⟩) M M], Thing.fn (nb + 1) 4 M (fun i => .bool (need i)), Thing.taken I2 nb M L need (-1) (-1), Thing.box vb 25 #[.slice av nv cv]]) (fun i _ => M - (intOf i).toNat)
              case atStart => exact ⟨0, by omega, rfl, HL6.out.rot3.fn_congr fun i _ => by simp⟩
              case round =>
                obtain ⟨y, hy, rfl, hl⟩ := hrel
                by_cases hlt3 : y < M
                · have hcl := hl.fn4.cell hlt3
                  obtain ⟨nd, hi⟩ : ∃ nd, L[y]? = some nd := ⟨_, List.getElem?_eq_getElem (by omega)⟩
                  by_cases hne : need y = true
                  · rw [hne] at hcl
                    have hld := hl.later (Below.refl _ _).drew
                    obtain ⟨vx, c0, c1, c2, hvx, hcls⟩ := Taken.at hld.fifth (t := y) (by omega) hlt3 hne hi
                    have b6 : wr.drew.heap[vb]? = _ := hld.sixth
                    have hargs := HG.out.wf.args y nd hi
                    have hval := value_any vb wb (q + 1) q M W (.slice av nv cv) vx vals (valsL W vals L) _ nd (by rw [cell_of_row _ _ 0 _ _ _ b6]; rfl) (HVV.out.below hld.below) HVL.out HVU.out (by rw [cell_of_row _ _ 0 _ _ _ hld.box2]; rfl) HG.out.w1 HG.out.w2 (by rw [cell_of_row _ _ 0 _ _ _ hld.box3]; rfl) hld.fn1 hvx.slice (HG.out.wf.ok nd (List.mem_of_getElem? hi)) (fun a ha => by have := hargs a ha; omega) (fun a ha => by
                      have := hargs a ha
                      refine ⟨?_, val_u64 HG.out.w1 HG.out.w2 vals HG.out.wf a.toNat⟩
                      show Value.int .u64 (if a.toNat < y ∧ need a.toNat = true then val W vals L a.toNat else 0) = _
                      rw [if_pos ⟨by omega, hcls (by omega) a ha⟩]; rfl)
                    rw [← val_at HG.out.wf hi] at hval
                    obtain ⟨a3, m3, k3, rfl⟩ : ∃ a m c, vx = .slice a m c := by obtain ⟨a, m, c, e, _⟩ := hvx; exact ⟨a, m, c, e⟩
                    have s0 : wr.drew.cell? ⟨q + 1, 0, none⟩ = some (.slice (some ⟨q, 0, none⟩) M M) := by rw [cell_of_row _ _ 0 _ _ _ hld.box3]; rfl
                    have hap := (List.pairwise_cons.1 hld.apart).1 (Thing.taken I2 nb M L need (-1) (-1)) (by simp)
                    have hqn : nb ≠ q := fun e => (hap.1 q (by simp [Thing.fn])).1 (by simp [Thing.taken, e])
                    have hqn' : q ≠ nb := hqn.symm
                    clear hap
                    have HL7 := Lib.hid hld; have HVAL := Lib.hid hval; have HNE := Lib.hid hne
                    clear hl hld hi hvx hcls b6 hargs hval hne
                    go_wp2
                    go_region_held3 (fun w' => w'.cell? ⟨q + 1, 0, none⟩ = some (.slice (some ⟨q, 0, none⟩) M M) ∧ w'.cell? ⟨nb, y * 3, none⟩ = some (.int .u8 nd.1) ∧ w'.cell? ⟨nb, y * 3 + 1, none⟩ = some (.int .u64 nd.2.1) ∧ w'.cell? ⟨nb, y * 3 + 2, none⟩ = some (.slice a3 m3 k3))
                      (first | exact ⟨s0, c0, c1, c2⟩ | exact ⟨by assumption, by assumption, by assumption, by assumption⟩ | go_keep)
                      ((go_at_call 71; refine HVAL.out.mono ?_; rintro e w7 ⟨rfl, hb7⟩; have hl8 := HL7.out.later hb7; have s1 := cell_later hb7 s0; have s2 := cell_later hb7 c0; have s3 := cell_later hb7 c1; have s4 := cell_later hb7 c2; have s5 := hl8.fn1.cell hlt3; have s6 := hl8.fn1.frozen y))
                    have HL8 := Lib.hid hl8
                    clear hl8 hb7 s1 s2 s3 s4 s5 s6 s0 c0 c1 c2
                    go_wp2
                    go_roundw
                    case rel =>
                      refine ⟨y + 1, by omega, by go_num, (HL8.out.set y _).fn_congr fun i _ => ?_⟩
                      by_cases e : i = y
                      · rw [if_pos e, e, if_pos ⟨by omega, HNE.out⟩]
                      · rw [if_neg e]
                        have hiff : (i < y ∧ need i = true) ↔ (i < y + 1 ∧ need i = true) := ⟨fun h => ⟨by omega, h.2⟩, fun h => ⟨by omega, h.2⟩⟩
                        simp only [hiff]
                    case measure => simp [intOf]; omega
                  · rw [Bool.not_eq_true] at hne
                    rw [hne] at hcl
                    have HL7 := Lib.hid hl; have HNE := Lib.hid hne
                    clear hl hi hne
                    go_wp2
                    go_roundw
                    case rel =>
                      refine ⟨y + 1, by omega, by go_num, HL7.out.fn_congr fun i _ => ?_⟩
                      have hiff : (i < y ∧ need i = true) ↔ (i < y + 1 ∧ need i = true) := ⟨fun h => ⟨by omega, h.2⟩, fun h => ⟨by
                        rcases Nat.lt_or_ge i y with h1 | h1
                        · exact h1
                        · obtain rfl : i = y := by omega
                          rw [HNE.out] at h; simp at h, h.2⟩⟩
                      simp only [hiff]
                    case measure => simp [intOf]; omega
                · obtain rfl : y = M := by omega
                  have hmk4 := run_make_row' (P := Tryz.prog) 25 43 (.int .u64 0) 8 Tryz.underlying25 Tryz.infoU64 rfl .i64 .i64 j (by omega) (by omega)
                  obtain ⟨ob, hob⟩ : ∃ ob, wr.heap.size = ob := ⟨_, rfl⟩
                  have hl7 := hl.drop
                  have hl8 := (hl.swap.drop.swap.rot3.drop.swap).make (n := j) (madeCells #[.int .u64 0] j) 43 (fun _ => .int .u64 0) (size_madeCells _ _) (fun i hi => by rw [madeCells_at _ _ i hi]; simp [Nat.mod_one])
                  rw [hob] at hl8
                  have hob2 := hl.size
                  rw [hob] at hob2
                  have HL8 := Lib.hid hl8
                  clear hl hl7 hl8
                  go_upto_region 38 with fail
                  clear hob hmk4
                  refine wp_abs (fun w7 => Lab w w7 [Thing.fn ob 43 j (fun _ => .int .u64 0), Thing.fn q 43 y (fun i => .int .u64 (if i < y ∧ need i = true then val W vals L i else 0)), Thing.box (q + 1) 25 #[.slice (some ⟨q, 0, none⟩) y y], Thing.taken I2 nb y L need (-1) (-1), Thing.box vb 25 #[.slice av nv cv]]) HL8.out ?_
                  rintro w7 hl7
                  have HL7 := Lib.hid hl7
                  clear hl7 HL8
                  go_wp2
                  go_loopw [123] (fun i wr => ∃ x : Nat, x ≤ j ∧ i = .int .i64 x ∧ Lab w wr [Thing.fn ob 43 j (fun i => .int .u64 (if i < x then (allV W vals L ts).getD i 0 else 0)), Thing.fn q 43 y (fun i => .int .u64 (if i < y ∧ need i = true then val W vals L i else 0)), Thing.box (q + 1) 25 #[.slice (some ⟨q, 0, none⟩) y y]]) (fun i _ => j - (intOf i).toNat)
                  case atStart => exact ⟨0, by omega, rfl, HL7.out.rot5.drop.rot4.drop.fn_congr fun i _ => by simp⟩
                  case round =>
                    obtain ⟨x, hx, rfl, hl⟩ := hrel
                    by_cases hlt4 : x < j
                    · obtain ⟨b, off, t, rfl, hc, ht⟩ := HC.out x hlt4
                      have hc1 := cell_later hl.below hc
                      have hmem := List.mem_of_getElem? ht
                      obtain ⟨z, rfl⟩ := Int.eq_ofNat_of_zero_le (HALL.out t hmem).1
                      have hzM : (z : Int) < (y : Int) := by have := HLAST.out _ hmem; omega
                      have hcl := hl.fn2.cell (i := z) (by omega)
                      have hndz := HND2.out _ hmem
                      rw [Int.toNat_natCast] at hndz
                      rw [if_pos ⟨by omega, hndz⟩] at hcl
                      have s0 : wr.cell? ⟨q + 1, 0, none⟩ = some (.slice (some ⟨q, 0, none⟩) y y) := by rw [cell_of_row _ _ 0 _ _ _ hl.box3]; rfl
                      have s1 := hl.fn1.cell hlt4
                      have s2 := hl.fn1.frozen x
                      have hgv : (allV W vals L ts).getD x 0 = val W vals L z := by
                        unfold allV
                        rw [List.getD_eq_getElem?_getD, List.getElem?_map, ht]; rfl
                      have HL8 := Lib.hid hl; have HGV := Lib.hid hgv
                      clear hl hc ht hmem hndz hgv
                      go_wp2
                      go_roundw
                      case rel =>
                        refine ⟨x + 1, by omega, by go_num, (HL8.out.set x _).fn_congr fun i _ => ?_⟩
                        by_cases e : i = x
                        · rw [if_pos e, e, if_pos (by omega), HGV.out]
                        · rw [if_neg e]
                          have hiff : (i < x) ↔ (i < x + 1) := ⟨fun h => by omega, fun h => by omega⟩
                          simp only [hiff]
                      case measure => simp [intOf]; omega
                    · obtain rfl : x = j := by omega
                      have hlen : (allV W vals L ts).length = x := by unfold allV; rw [List.length_map]; exact HLN.out
                      have hres := owns_of_row (base := w.heap.size) (xs := allV W vals L ts) hl.fn1 hob2 hlen (by unfold maxLen; omega) (fun i hi => by rw [if_pos hi])
                      have HRES := Lib.hid (And.intro hres hl.below)
                      clear hl hlen hres
                      go_wp2
                      go_ret2
                      exact ⟨_, _, _, rfl, HRES.out.1, HRES.out.2⟩
end Go.Proofs.YteamnchoddegpaaGreatDoor
namespace Go.Proofs.YteamnchoddegpaaGreatDoor
open Go.RowKit Go.Maps
set_option maxHeartbeats 800000
open Classical in
/-- What All returns. -/
noncomputable def allR (W : Nat) (vals : List Int) (L : List PNode) (ts : List Int) : List Int × Nat := if AllIn L ts then (allV W vals L ts, 0) else ([], 3)
theorem allR_in {W : Nat} {vals : List Int} {L : List PNode} {ts : List Int} (h : AllIn L ts) : allR W vals L ts = (allV W vals L ts, 0) := if_pos h
theorem allR_out {W : Nat} {vals : List Int} {L : List PNode} {ts : List Int} (h : ¬ AllIn L ts) : allR W vals L ts = ([], 3) := if_neg h
theorem all_any {w : World} {F I : List Nat} {gb W room : Nat} {L : List PNode} (h : Gr w 0 F I gb W room L) (ts vals : List Int) (v vv : Value) (hv : SliceOf w .i64 v ts) (hvv : SliceOf w .u64 vv vals) (hn : ts.length ≤ 1000000000) (hvl : vals.length ≤ 9223372036854775807) (hvu : U64s vals) :
    Calls Tryz.prog 41 #[.pointer (some ⟨gb, 0, none⟩), v, vv] w fun e w' => ∃ a m c, e = .returned (.tuple #[.slice a m c, .int .i64 (allR W vals L ts).2]) ∧ OwnInts w' w.heap.size 43 .u64 (.slice a m c) (allR W vals L ts).1 ∧ Below w.heap.size w w' := by
  by_cases hin : AllIn L ts
  · rw [allR_in hin]
    exact all_ok h ts vals v vv hv hvv hn hvl hvu hin
  · rw [allR_out hin]
    refine (all_bad h ts v vv hv (by obtain ⟨a, n, c, e, _⟩ := hvv; exact ⟨a, n, c, e⟩) (by omega) hin).mono ?_
    rintro e w' ⟨rfl, hb⟩
    exact ⟨none, 0, 0, rfl, OwnInts.nil _ _ _ _, hb⟩
/-- What Eval returns. -/
def evalR (W : Nat) (vals : List Int) (L : List PNode) (t : Int) : Int × Nat := if 0 ≤ t ∧ t < (L.length : Int) then (val W vals L t.toNat, 0) else (0, 3)
theorem allIn_one {L : List PNode} {t : Int} : AllIn L [t] ↔ 0 ≤ t ∧ t < (L.length : Int) := by simp [AllIn]
theorem eval_any {w : World} {F I : List Nat} {gb W room : Nat} {L : List PNode} (h : Gr w 0 F I gb W room L) (t : Int) (vals : List Int) (vv : Value) (hvv : SliceOf w .u64 vv vals) (hvl : vals.length ≤ 9223372036854775807) (hvu : U64s vals) :
    Calls Tryz.prog 14 #[.pointer (some ⟨gb, 0, none⟩), .int .i64 t, vv] w fun e w' => e = .returned (.tuple #[.int .u64 (evalR W vals L t).1, .int .i64 (evalR W vals L t).2]) ∧ Below w.heap.size w w' := by
  obtain ⟨av, nv, cv, rfl, -, -⟩ := hvv.parts
  have hb1 := below_new w (.cells #[.int .i64 t] 3)
  have hall := all_any (h.later hb1) [t] vals _ _ (sliceOf_new w .i64 3 [t] 1) (hvv.below hb1) (by simp) hvl hvu
  have HB1 := Lib.hid hb1
  by_cases hin : 0 ≤ t ∧ t < (L.length : Int)
  · have hr : evalR W vals L t = (val W vals L t.toNat, 0) := if_pos hin
    rw [allR_in (allIn_one.2 hin)] at hall
    rw [hr]
    have HALL := Lib.hid hall
    clear hall hr hb1 h hvv hin
    go_enter Tryz.func14, Tryz.ntmps14
    go_wp2_with fail
    go_at_call 41
    refine HALL.out.mono ?_
    rintro e w2 ⟨a, m, c, rfl, ho, hb2⟩
    obtain ⟨a', n', c', e', hl', hcell⟩ := ho.slice.parts
    simp only [Value.slice.injEq] at e'
    obtain ⟨rfl, rfl, rfl⟩ := e'
    obtain rfl : m = 1 := by rw [← hl']; rfl
    obtain ⟨b, off, q, rfl, hc, hq⟩ := hcell 0 (by omega)
    obtain rfl : val W vals L t.toNat = q := by simpa [allV] using hq
    rw [Nat.add_zero] at hc
    have HB2 := Lib.hid (HB1.out.trans (hb2.mono HB1.out.size))
    clear ho hb2 hcell hq hl'
    go_wp2
    go_ret2
    exact ⟨rfl, HB2.out⟩
  · have hr : evalR W vals L t = (0, 3) := if_neg hin
    rw [allR_out (fun h => hin (allIn_one.1 h))] at hall
    rw [hr]
    have HALL := Lib.hid hall
    clear hall hr hb1 h hvv hin
    go_enter Tryz.func14, Tryz.ntmps14
    go_wp2_with fail
    go_at_call 41
    refine HALL.out.mono ?_
    rintro e w2 ⟨a, m, c, rfl, ho, hb2⟩
    have HB2 := Lib.hid (HB1.out.trans (hb2.mono HB1.out.size))
    clear ho hb2
    go_wp2
    go_ret2
    exact ⟨rfl, HB2.out⟩
end Go.Proofs.YteamnchoddegpaaGreatDoor
namespace Go.Proofs.YteamnchoddegpaaGreatDoor
open Go.RowKit Go.Maps
set_option maxHeartbeats 800000
section
variable {w0 wr w' : World} {ts : List Thing} {F I : List Nat} {gb W room : Nat} {L : List PNode}
/-- A call of Eval with values that are laid ahead of it. -/
theorem Lab.eval (h : Lab w0 wr (Thing.graph F I gb W room L :: ts)) (t : Int) (vals : List Int) (vv : Value) (hvv : SliceOf wr .u64 vv vals) (hvl : vals.length ≤ 9223372036854775807) (hvu : U64s vals) {R : Int × Nat} (hR : evalR W vals L t = R) :
    Calls Tryz.prog 14 #[.pointer (some ⟨gb, 0, none⟩), .int .i64 t, vv] wr fun e w' => e = .returned (.tuple #[.int .u64 R.1, .int .i64 R.2]) ∧ Lab w0 w' (Thing.graph F I gb W room L :: ts) := by
  subst hR
  exact (eval_any h.gr t vals vv hvv hvl hvu).mono fun e w' ⟨he, hb⟩ => ⟨he, h.later hb⟩
end
end Go.Proofs.YteamnchoddegpaaGreatDoor
namespace Go.Proofs.YteamnchoddegpaaGreatDoor
open Go.RowKit Go.Maps Go.ChangeMaps
set_option maxHeartbeats 400000
theorem perm_born : ∀ {l : List MapEntry} {e : MapEntry}, (l.map (·.born)).Nodup → e ∈ l → l.Perm (e :: l.filter fun x => !(x.born == e.born))
  | [], _, _, h => by cases h
  | x :: l, e, hn, h => by
    simp only [List.map_cons, List.nodup_cons] at hn
    rcases List.mem_cons.1 h with rfl | h
    · have hf : l.filter (fun x => !(x.born == e.born)) = l := by
        rw [List.filter_eq_self]
        intro y hy
        have : y.born ≠ e.born := fun he => hn.1 (List.mem_map.2 ⟨y, hy, he⟩)
        simpa using this
      rw [List.filter_cons, if_neg (by simp), hf]
    · have hne : x.born ≠ e.born := fun he => hn.1 (List.mem_map.2 ⟨e, h, he.symm⟩)
      rw [List.filter_cons, if_pos (by simpa using hne)]
      exact ((perm_born hn.2 h).cons x).trans (List.Perm.swap e x _)
/-- A loop over block mb is under way, its iterator in block r: d has come. -/
def MapRng (w : World) (mb r : Nat) (m d : List (Value × Value)) : Prop :=
  ∃ es clock seen, w.heap[mb]? = some (.map es clock) ∧ (es.toList.map (·.born)).Nodup ∧ (∀ e ∈ es.toList, e.born < clock) ∧ w.heap[r]? = some (.mapIter (some mb) clock seen clock) ∧
    (d ++ (leftOf es seen).toList.map fun e => (e.key, e.val)).Perm m
/-- How much is to come. -/
def rngLeft (w : World) (mb r : Nat) : Nat :=
  match w.heap[mb]?, w.heap[r]? with
  | some (.map es _), some (.mapIter _ _ seen _) => (leftOf es seen).size
  | _, _ => 0
theorem below_new' (w : World) (o : Obj) : Below w.heap.size w (w.alloc o) := (Below.refl _ _).alloc (Nat.le_refl _) o
section
variable {P : Program} {K : TypeId} {w w' : World} {mb r : Nat} {m d : List (Value × Value)}
theorem MapRng.keep (h : MapRng w mb r m d) (h1 : w'.heap[mb]? = w.heap[mb]?) (h2 : w'.heap[r]? = w.heap[r]?) : MapRng w' mb r m d ∧ rngLeft w' mb r = rngLeft w mb r := by
  refine ⟨?_, by unfold rngLeft; rw [h1, h2]⟩
  obtain ⟨es, clock, seen, a, b, c, e, f⟩ := h
  exact ⟨es, clock, seen, h1.trans a, b, c, h2.trans e, f⟩
theorem MapRng.lt (h : MapRng w mb r m d) : mb < w.heap.size ∧ r < w.heap.size := by
  obtain ⟨es, clock, seen, a, b, c, e, f⟩ := h
  exact ⟨(Array.getElem?_eq_some_iff.1 a).1, (Array.getElem?_eq_some_iff.1 e).1⟩
/-- 'range m'. -/
theorem wpList_range_map {ops : Array Oper} {rest : List Oper} {o : Oper} {a : Act} {Q : Exit → Act → World → Prop} (hg : o.guard = none) (x : Operand) (T E : TypeId) (hop : o.op = Op.range T x) (hT : P.underlying T = some (.map K E)) (hx : a.eval x = .map (some mb)) (h : MapIs P K w mb m)
    (hK : ∀ w', MapRng w' mb w.heap.size m [] → Below w.heap.size w w' → w'.heap.size = w.heap.size + 1 → wpList P ops Q rest (a.put o.dst (.pointer (some ⟨w.heap.size, 0, none⟩))) w') : wpList P ops Q (o :: rest) a w := by
  obtain ⟨es, clock, h1, h2, h3, h4, h5, h6⟩ := h
  have hlt := (Array.getElem?_eq_some_iff.1 h1).1
  have hrun := run_range_map (P := P) w T K E mb es clock hT h1
  refine wpList_plain hg fun K' hK' => ?_
  unfold Oper.wp
  simp [execOp, hop, hx, hrun, Result.andThen]
  refine hK' _ _ (hK _ ⟨es, clock, #[], (heap_alloc_old w _ hlt).trans h1, h5, h6, heap_alloc_new w _, ?_⟩ (below_new' w _) (by simp))
  have hl : leftOf es #[] = es := by unfold leftOf; simp
  rw [hl]
  exact h3
theorem MapRng.next (h : MapRng w mb r m d) (ty : TypeId) :
    (d.Perm m ∧ (Instr.next (.pointer (some ⟨r, 0, none⟩)) false ty).run P w = .ok (.tuple #[.bool false]) w) ∨
    ∃ k v w', (∃ l, (d ++ (k, v) :: l).Perm m) ∧ (Instr.next (.pointer (some ⟨r, 0, none⟩)) false ty).run P w = .ok (.tuple #[.bool true, k, v]) w' ∧ MapRng w' mb r m (d ++ [(k, v)]) ∧ rngLeft w' mb r < rngLeft w mb r ∧ But r w w' ∧
      (Instr.entry (.pointer (some ⟨r, 0, none⟩))).run P w' = .ok (.tuple #[k, v]) w' := by
  obtain ⟨es, clock, seen, h1, h2, h3, h4, h5⟩ := h
  have hne : mb ≠ r := by rintro rfl; rw [h1] at h4; cases h4
  rcases run_next_at (P := P) w ty r mb clock clock seen es clock h4 h1 h3 (Nat.le_refl _) with ⟨h0, hrun⟩ | ⟨e, he, w1, hal, hrun⟩
  · left
    refine ⟨?_, hrun⟩
    have : (leftOf es seen).toList = [] := by
      have := Array.eq_empty_of_size_eq_zero h0
      rw [this]
    rw [this] at h5
    simpa using h5
  · right
    obtain ⟨hem, hes⟩ := mem_left he
    have hr1 : w1.heap[r]? = some (.mapIter (some mb) clock seen clock) := by rcases hal with rfl | rfl <;> exact h4
    have hb1 : w1.heap[mb]? = some (.map es clock) := by rcases hal with rfl | rfl <;> exact h1
    have hset := MapKept.heap_set (o' := .mapIter (some mb) clock (seen.push e.born) clock) hr1
    have hb' : (setBlock w1 r (.mapIter (some mb) clock (seen.push e.born) clock)).heap[mb]? = some (.map es clock) := (hset.2 mb hne).trans hb1
    have hleft : (leftOf es (seen.push e.born)).toList = (leftOf es seen).toList.filter fun x => !(x.born == e.born) := by
      unfold leftOf
      simp only [Array.toList_filter, List.filter_filter]
      refine List.filter_congr fun x _ => ?_
      rw [contains_push]
      cases seen.contains x.born <;> cases (x.born == e.born) <;> rfl
    have hnl : ((leftOf es seen).toList.map (·.born)).Nodup := by
      refine h2.sublist (List.Sublist.map _ ?_)
      unfold leftOf
      rw [Array.toList_filter]
      exact List.filter_sublist
    have hp := perm_born hnl he
    refine ⟨e.key, e.val, _, ⟨((leftOf es (seen.push e.born)).toList.map fun e => (e.key, e.val)), ?_⟩, hrun, ⟨es, clock, seen.push e.born, hb', h2, h3, hset.1, ?_⟩, ?_, ?_, run_entry_at _ r mb clock seen es clock e hset.1 hb' hem h2⟩
    · rw [hleft]
      exact ((hp.map fun e => (e.key, e.val)).append_left d).symm.trans h5
    · rw [List.append_assoc, hleft]
      exact ((hp.map fun e => (e.key, e.val)).append_left d).symm.trans h5
    · have e1 : rngLeft w mb r = (leftOf es seen).size := by unfold rngLeft; rw [h1, h4]
      have e2 : rngLeft (setBlock w1 r (.mapIter (some mb) clock (seen.push e.born) clock)) mb r = (leftOf es (seen.push e.born)).size := by unfold rngLeft; rw [hb', show (setBlock w1 r (.mapIter (some mb) clock (seen.push e.born) clock)).heap[r]? = _ from hset.1]
      rw [e1, e2]
      exact left_shrinks es seen e he
    · rcases hal with rfl | rfl
      · exact ⟨rfl, rfl, rfl, by simp [setBlock], fun i hi => hset.2 i hi⟩
      · exact ⟨rfl, rfl, rfl, by simp [setBlock], fun i hi => hset.2 i hi⟩
/-- The step. -/
theorem wpList_next_map {ops : Array Oper} {rest : List Oper} {o : Oper} {a : Act} {Q : Exit → Act → World → Prop} (hg : o.guard = none) (x : Operand) (hop : o.op = Op.next x false) (hx : a.eval x = .pointer (some ⟨r, 0, none⟩)) (h : MapRng w mb r m d)
    (hDone : d.Perm m → wpList P ops Q rest (a.put o.dst (.tuple #[.bool false])) w)
    (hMore : ∀ k v w', (∃ l, (d ++ (k, v) :: l).Perm m) → MapRng w' mb r m (d ++ [(k, v)]) → rngLeft w' mb r < rngLeft w mb r → But r w w' → (Instr.entry (.pointer (some ⟨r, 0, none⟩))).run P w' = .ok (.tuple #[k, v]) w' → wpList P ops Q rest (a.put o.dst (.tuple #[.bool true, k, v])) w') :
    wpList P ops Q (o :: rest) a w := by
  refine wpList_plain hg fun K' hK' => ?_
  unfold Oper.wp
  rcases h.next (P := P) o.type with ⟨h0, hrun⟩ | ⟨k, v, w', h1, hrun, h2, h3, h4, h5⟩
  · simp [execOp, hop, hx, hrun, Result.andThen]
    exact hK' _ _ (hDone h0)
  · simp [execOp, hop, hx, hrun, Result.andThen]
    exact hK' _ _ (hMore k v w' h1 h2 h3 h4 h5)
theorem MapIs.perm {m' : List (Value × Value)} (h : MapIs P K w mb m) (hp : m.Perm m') : MapIs P K w mb m' := by
  obtain ⟨es, clock, h1, h2, h3, h4, h5, h6⟩ := h
  exact ⟨es, clock, h1, h2, h3.trans hp, ((hp.map (·.1)).nodup_iff).1 h4, h5, h6⟩
end
end Go.Proofs.YteamnchoddegpaaGreatDoor
namespace Go.Proofs.YteamnchoddegpaaGreatDoor
open Go.RowKit Go.Maps
set_option maxHeartbeats 800000
/-- A set, as a map's function. -/
def setF (S : Int → Bool) : Int → Option Value := fun k => if S k = true then some (.bool true) else none
theorem setF_put {S : Int → Bool} {k : Int} : ∀ j, (if j = k then some (Value.bool true) else setF S j) = setF (fun j => if j = k then true else S j) j := by
  intro j
  unfold setF
  by_cases h : j = k
  · simp [h]
  · simp [h]
section
variable {w0 wr w' : World} {ts : List Thing} {K T E : TypeId} {kd : IntKind} {mb c : Nat} {S : Int → Bool}
/-- A set in memory: what a look-up answers. -/
theorem MapF.ask {w : World} (h : MapF Tryz.prog K kd w mb (setF S) c) (hK : Tryz.prog.underlying K = some (.int kd)) (hT : Tryz.prog.underlying T = some (.map K E)) (hz : (zeroValue E).run Tryz.prog w = .ok (.bool false) w) {k : Int} (hw : (Lit.int kd k).wf = true) :
    (Instr.lookup T (.map (some mb)) (.int kd k) false).run Tryz.prog w = .ok (.bool (S k)) w := by
  cases hs : S k with
  | true => exact h.hit hK hT hw (v := .bool true) (by unfold setF; rw [if_pos hs]) false
  | false => exact h.miss hK hT hz hw (by unfold setF; rw [if_neg (by rw [hs]; decide)]) false
/-- A set takes one in. -/
theorem Lab.sput (h : ∃ c, Lab w0 wr (Thing.mapf K kd mb (setF S) c :: ts)) (hK : Tryz.prog.underlying K = some (.int kd)) (hT : Tryz.prog.underlying T = some (.map K E)) {k : Int} (hw : (Lit.int kd k).wf = true) :
    (Instr.mapUpdate T (.map (some mb)) (.int kd k) (.bool true)).run Tryz.prog wr = .ok () (mapW Tryz.prog T mb (.int kd k) (.bool true) wr) ∧ ∃ c, Lab w0 (mapW Tryz.prog T mb (.int kd k) (.bool true) wr) (Thing.mapf K kd mb (setF fun j => if j = k then true else S j) c :: ts) := by
  obtain ⟨c, h⟩ := h
  obtain ⟨hr, hl⟩ := h.mput hK hT hw (.bool true)
  exact ⟨hr, _, hl.mapf_congr setF_put⟩
end
theorem zeroBool (w : World) : (zeroValue 4).run Tryz.prog w = .ok (.bool false) w := by kernel_rfl
theorem wf_i64 {k : Int} (h1 : -9223372036854775808 ≤ k) (h2 : k ≤ 9223372036854775807) : (Lit.int .i64 k).wf = true := by
  simp [Lit.wf, IntKind.min, IntKind.max, IntKind.signed, IntKind.bits]; omega
theorem wf_u64 {k : Int} (h1 : 0 ≤ k) (h2 : k ≤ 18446744073709551615) : (Lit.int .u64 k).wf = true := by
  simp [Lit.wf, IntKind.min, IntKind.max, IntKind.signed, IntKind.bits]; omega
/-- A map over which a loop is under way: block mb, the loop's own block r. -/
def Thing.rng (mb r : Nat) (m d : List (Value × Value)) : Thing :=
  ⟨[mb, r], [], fun w => MapRng w mb r m d, fun _ _ h hk => (h.keep (hk mb (.inl (by simp))) (hk r (.inl (by simp)))).1⟩
section
variable {w0 wr w' : World} {ts : List Thing} {K : TypeId} {kd : IntKind} {mb r c : Nat} {f : Int → Option Value} {m d d' : List (Value × Value)}
theorem Lab.rng (h : Lab w0 wr (Thing.rng mb r m d :: ts)) : MapRng wr mb r m d := h.head
/-- The loop begins. -/
theorem Lab.rng_start (h : Lab w0 wr (Thing.mapf K kd mb f c :: ts)) (hr : MapRng w' mb wr.heap.size m []) (hb : Below wr.heap.size wr w') : Lab w0 w' (Thing.rng mb wr.heap.size m [] :: ts) := by
  refine h.turn (s' := Thing.rng mb wr.heap.size m []) (Touch.of_below hb _) hr (fun k hk => ?_) (fun k hk => by simp [Thing.rng] at hk) (fun k hk => ?_)
  · simp only [Thing.rng, List.mem_cons, List.not_mem_nil, or_false] at hk
    rcases hk with rfl | rfl
    · exact .inl (by simp [Thing.mapf])
    · exact .inr (Nat.le_refl _)
  · simp only [Thing.rng, List.mem_cons, List.not_mem_nil, or_false] at hk
    rcases hk with rfl | rfl
    · exact hr.lt.1
    · exact hr.lt.2
/-- One more has come. -/
theorem Lab.rng_next (h : Lab w0 wr (Thing.rng mb r m d :: ts)) (hr : MapRng w' mb r m d') (hb : But r wr w') : Lab w0 w' (Thing.rng mb r m d' :: ts) := by
  refine h.turn (s' := Thing.rng mb r m d') ⟨hb.os, hb.tape, hb.output, by rw [hb.size]; exact Nat.le_refl _, fun k _ hn => hb.block k (by simp [Thing.rng] at hn; exact hn.2)⟩ hr (fun k hk => .inl hk) (fun k hk => by simp [Thing.rng] at hk) (fun k hk => ?_)
  simp only [Thing.rng, List.mem_cons, List.not_mem_nil, or_false] at hk
  rcases hk with rfl | rfl
  · exact hr.lt.1
  · exact hr.lt.2
/-- What a loop over a map of integers' keys hands over. -/
theorem rng_key (h : ∀ p ∈ m, ∃ k v, p = (Value.int kd k, v) ∧ f k = some v) {k v : Value} (hm : ∃ l, (d ++ (k, v) :: l).Perm m) : ∃ j, k = .int kd j ∧ f j = some v := by
  obtain ⟨l, hl⟩ := hm
  obtain ⟨j, u, e, hj⟩ := h (k, v) (hl.mem_iff.1 (by simp))
  simp only [Prod.mk.injEq] at e
  exact ⟨j, e.1, by rw [e.2]; exact hj⟩
end
end Go.Proofs.YteamnchoddegpaaGreatDoor
