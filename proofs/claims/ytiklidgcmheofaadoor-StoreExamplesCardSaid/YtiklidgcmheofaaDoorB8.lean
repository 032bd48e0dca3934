/- EvalB: joined by wip/bundle.py. -/
import Derived.Test.YtiklidgcmheofaaDoorB1
import Derived.Test.YtiklidgcmheofaaDoorB2
import Derived.Test.YtiklidgcmheofaaDoorB3
import Derived.Test.YtiklidgcmheofaaDoorB4
import Derived.Test.YtiklidgcmheofaaDoorB5
import Derived.Test.YtiklidgcmheofaaDoorB7
import Derived.BigQuiet
namespace Go.Proofs.YtiklidgcmheofaaDoor
open Go.RowKit Go.Maps
set_option maxHeartbeats 800000
/-- All of these are terms. -/
def AllIn (L : List PNode) (ts : List Int) : Prop := ∀ t ∈ ts, (0 : Int) ≤ t ∧ t < (L.length : Int)
def allV (W : Nat) (vals : List Int) (L : List PNode) (ts : List Int) : List Int := ts.map fun t => val W vals L t.toNat
set_option maxRecDepth 100000 in
theorem Tryd.infoNode : (Tryd.prog.info? 64).map (fun i => (i.zero, i.size, i.bytes)) = some (some (.agg #[.int .u8 0, .int .u64 0, .slice none 0 0]), 3, 40) := by kernel_rfl
theorem Tryd.infoBool : (Tryd.prog.info? 4).map (fun i => (i.zero, i.size, i.bytes)) = some (some (.bool false), 1, 1) := by kernel_rfl
theorem make_nodes (M : Nat) (hM : M ≤ 1048576) (w : World) : (Instr.makeSlice 74 (.int .i64 (M : Int)) (.int .i64 (M : Int))).run Tryd.prog w = .ok (.slice (some ⟨w.heap.size, 0, none⟩) M M) (w.alloc (.cells (madeCells #[.int .u8 0, .int .u64 0, .slice none 0 0] (M * 3)) 64)) := by
  obtain ⟨i0, hi, hz, hs, hb⟩ := info_parts Tryd.infoNode
  have h := run_make (P := Tryd.prog) w 74 64 i0 _ Tryd.underlying74 hi hz .i64 .i64 M M (by omega) (by omega) (by rw [hb]; omega) (by omega)
  have hzc : (Value.agg #[.int .u8 0, .int .u64 0, .slice none 0 0]).cells = #[.int .u8 0, .int .u64 0, .slice none 0 0] := by simp [Value.cells]
  rw [hs, hzc, Int.toNat_natCast] at h
  exact h
set_option maxRecDepth 100000 in
theorem all_bad {w : World} {F I : List Nat} {gb W room : Nat} {L : List PNode} (h : Gr w 0 F I gb W room L) (ts : List Int) (v vv : Value) (hv : SliceOf w .i64 v ts) (hvv : ∃ a n c, vv = .slice a n c) (hn : ts.length ≤ 9223372036854775807) (hb : ¬ AllIn L ts) :
    Calls Tryd.prog 39 #[.pointer (some ⟨gb, 0, none⟩), v, vv] w fun e w' => e = .returned (.tuple #[.slice none 0 0, .int .i64 3]) ∧ Below w.heap.size w w' := by
  obtain ⟨av, nv, cv, rfl⟩ := hvv
  obtain ⟨a, n, cap, rfl, hln, hcell⟩ := hv.parts
  have hn' : n ≤ 9223372036854775807 := by omega
  have hb1 := below_new w (.cells #[.slice av nv cv] 48)
  have HB1 := Lib.hid hb1; have HC := Lib.hid hcell; have HBAD := Lib.hid hb; have HG := Lib.hid h; have HLN := Lib.hid hln
  clear hb1 hcell hb h hln hn hv
  go_enter Tryd.func39, Tryd.ntmps39
  go_upto_region 1 with fail
  refine wp_abs (fun w1 => Below w.heap.size w w1) HB1.out ?_
  rintro w1 hb1
  have HG1 := Lib.hid (HG.out.later hb1)
  have HB2 := Lib.hid hb1
  clear hb1
  have hll : L.length ≤ 1048576 := by have := HG1.out.len; have := HG1.out.r2; omega
  go_wp2
  go_loop [8, 29] (fun s i => ∃ k : Nat, k ≤ n ∧ i = .int .i64 k ∧ (∃ last : Int, s = .int .i64 last ∧ -1 ≤ last ∧ last < (L.length : Int)) ∧ ∀ t ∈ ts.take k, (0 : Int) ≤ t ∧ t < (L.length : Int)) (fun _ i => n - (intOf i).toNat)
  case atStart => exact ⟨0, by omega, rfl, ⟨-1, rfl, by omega, by omega⟩, by simp⟩
  case round =>
    obtain ⟨k, hk, rfl, ⟨last, rfl, hl1, hl2⟩, hall⟩ := hrel
    have HALL := Lib.hid hall
    clear hall
    by_cases hlt : k < n
    · obtain ⟨b, off, t, rfl, hc, ht⟩ := HC.out k hlt
      have hc1 := cell_later HB2.out hc
      have HT := Lib.hid ht
      clear hc ht
      by_cases t0 : t < 0
      · go_wp2
        go_ret2
        exact ⟨rfl, HB2.out⟩
      · by_cases t1 : (L.length : Int) ≤ t
        · go_wp2_with (go_at_call 48; refine (len_any HG1.out).mono ?_; rintro e w2 ⟨rfl, rfl⟩)
          go_ret2
          exact ⟨rfl, HB2.out⟩
        · go_wp2_with (go_at_call 48; refine (len_any HG1.out).mono ?_; rintro e w2 ⟨rfl, rfl⟩)
          go_round
          case rel =>
            refine ⟨k + 1, by omega, by go_num, ⟨if last < t then t else last, rfl, by split <;> omega, by split <;> omega⟩, fun u hu => ?_⟩
            rw [← take_snoc' HT.out] at hu
            rcases List.mem_append.1 hu with hu | hu
            · exact HALL.out u hu
            · simp at hu; subst hu; omega
          case measure => simp [intOf]; omega
    · obtain rfl : k = n := by omega
      exact absurd (by rw [List.take_of_length_le (by rw [HLN.out]; exact Nat.le_refl _)] at HALL; exact HALL.out) HBAD.out
set_option maxRecDepth 100000 in
set_option maxHeartbeats 3200000 in
theorem all_ok {w : World} {F I : List Nat} {gb W room : Nat} {L : List PNode} (h : Gr w 0 F I gb W room L) (ts vals : List Int) (v vv : Value) (hv : SliceOf w .i64 v ts) (hvv : SliceOf w .u64 vv vals) (hn : ts.length ≤ 1000000000) (hvl : vals.length ≤ 9223372036854775807) (hvu : U64s vals) (hb : AllIn L ts) :
    Calls Tryd.prog 39 #[.pointer (some ⟨gb, 0, none⟩), v, vv] w fun e w' => ∃ a m c, e = .returned (.tuple #[.slice a m c, .int .i64 0]) ∧ OwnInts w' w.heap.size 40 .u64 (.slice a m c) (allV W vals L ts) ∧ Below w.heap.size w w' := by
  obtain ⟨av, nv, cv, rfl, -, -⟩ := hvv.parts
  obtain ⟨a, n, cap, rfl, hln, hcell⟩ := hv.parts
  have hn' : n ≤ 1000000000 := by omega
  obtain ⟨vb, hvb⟩ : ∃ vb, w.heap.size = vb := ⟨_, rfl⟩
  have hl0 := (Lab.nil (Below.refl w.heap.size w)).alloc #[.slice av nv cv] 48
  rw [hvb] at hl0
  have HC := Lib.hid hcell; have HALL := Lib.hid hb; have HG := Lib.hid h; have HLN := Lib.hid hln; have HVV := Lib.hid hvv; have HL0 := Lib.hid hl0; have HVL := Lib.hid hvl; have HVU := Lib.hid hvu
  clear hcell hb h hln hn hv hvv hl0 hvl hvu
  go_enter Tryd.func39, Tryd.ntmps39
  go_upto_region 1 with fail
  clear hvb
  refine wp_abs (fun w1 => Lab w w1 [Thing.box vb 48 #[.slice av nv cv]]) HL0.out ?_
  rintro w1 hl1
  have HG1 := Lib.hid (HG.out.later hl1.below)
  have HL1 := Lib.hid hl1
  clear hl1
  have hll : L.length ≤ 1048576 := by have := HG1.out.len; have := HG1.out.r2; omega
  go_wp2
  go_loop [8, 29] (fun s i => ∃ k : Nat, k ≤ n ∧ i = .int .i64 k ∧ ∃ last : Int, s = .int .i64 last ∧ -1 ≤ last ∧ last < (L.length : Int) ∧ ∀ t ∈ ts.take k, t ≤ last) (fun _ i => n - (intOf i).toNat)
  case atStart => exact ⟨0, by omega, rfl, -1, rfl, by omega, by omega, by simp⟩
  case round =>
    obtain ⟨k, hk, rfl, last, rfl, hl1, hl2, hall⟩ := hrel
    have HLAST := Lib.hid hall
    clear hall
    by_cases hlt : k < n
    · obtain ⟨b, off, t, rfl, hc, ht⟩ := HC.out k hlt
      have hc1 := cell_later HL1.out.below hc
      have htin := HALL.out t (List.mem_of_getElem? ht)
      have t0 : ¬ t < 0 := by omega
      have t1 : ¬ (L.length : Int) ≤ t := by omega
      have HT := Lib.hid ht
      clear hc ht htin
      go_wp2_with (go_at_call 48; refine (len_any HG1.out).mono ?_; rintro e w2 ⟨rfl, rfl⟩)
      go_round
      case rel =>
        refine ⟨k + 1, by omega, by go_num, if last < t then t else last, rfl, by split <;> omega, by split <;> omega, fun u hu => ?_⟩
        rw [← take_snoc' HT.out] at hu
        rcases List.mem_append.1 hu with hu | hu
        · have := HLAST.out u hu; split <;> omega
        · simp at hu; subst hu; split <;> omega
      case measure => simp [intOf]; omega
    · obtain rfl : k = n := by omega
      rw [List.take_of_length_le (by rw [HLN.out]; exact Nat.le_refl _)] at HLAST
      obtain ⟨M, hM⟩ : ∃ M : Nat, last + 1 = (M : Int) := ⟨(last + 1).toNat, by omega⟩
      obtain rfl : last = (M : Int) - 1 := by omega
      have hML : M ≤ L.length := by omega
      have hmk1 := make_nodes M (by omega)
      have hmk2 := run_make_row' (P := Tryd.prog) 113 4 (.bool false) 1 Tryd.underlying113 Tryd.infoBool rfl .i64 .i64 M (by omega) (by omega)
      obtain ⟨nb, hnb⟩ : ∃ nb, w1.heap.size = nb := ⟨_, rfl⟩
      have hl2 := (HL1.out.make (n := M * 3) (madeCells #[.int .u8 0, .int .u64 0, .slice none 0 0] (M * 3)) 64 _ (size_madeCells _ _) (fun i hi => madeCells_at _ _ i hi))
      have hl3 := (hl2.say (s' := Thing.taken [] nb M L (fun _ => false) ((M : Int) - 1) ((M : Int) - 1)) (by rw [← hnb]; rfl) (fun _ hk => hk) (fun hh => Taken.start (by rw [← hnb]; exact hh) (shape_made M))).make (n := M) (madeCells #[.bool false] M) 4 (fun _ => .bool false) (size_madeCells _ _) (fun i hi => by rw [madeCells_at _ _ i hi]; simp [Nat.mod_one])
      rw [World.size_alloc, hnb] at hl3
      have HL3 := Lib.hid hl3
      clear hl2 hl3
      go_upto_region 13 with fail
      clear hnb
      refine wp_abs (fun w2 => Lab w w2 [Thing.fn (nb + 1) 4 M (fun _ => .bool false), Thing.taken [] nb M L (fun _ => false) ((M : Int) - 1) ((M : Int) - 1), Thing.box vb 48 #[.slice av nv cv]]) HL3.out ?_
      rintro w2 hl
      have HL4 := Lib.hid hl
      clear hl HL1 HL3 hmk1 hmk2 HG1
      go_wp2
      go_loopw [53] (fun i wr => ∃ j : Nat, j ≤ k ∧ i = .int .i64 j ∧ ∃ need : Nat → Bool, (∀ t ∈ ts.take j, need t.toNat = true) ∧ Lab w wr [Thing.fn (nb + 1) 4 M (fun i => .bool (need i)), Thing.taken [] nb M L need ((M : Int) - 1) ((M : Int) - 1), Thing.box vb 48 #[.slice av nv cv]]) (fun i _ => k - (intOf i).toNat)
      case atStart => exact ⟨0, by omega, rfl, fun _ => false, by simp, HL4.out⟩
      case round =>
        obtain ⟨j, hj, rfl, need, hnd, hl⟩ := hrel
        by_cases hlt2 : j < k
        · obtain ⟨b, off, t, rfl, hc, ht⟩ := HC.out j hlt2
          have hc1 := cell_later hl.below hc
          have hmem := List.mem_of_getElem? ht
          obtain ⟨z, rfl⟩ := Int.eq_ofNat_of_zero_le (HALL.out t hmem).1
          have hzM : (z : Int) < (M : Int) := by have := HLAST.out _ hmem; omega
          have hcl := hl.fn1.cell (i := z) (by omega)
          have hfr := hl.fn1.frozen z
          have HL5 := Lib.hid hl; have HND := Lib.hid hnd; have HT := Lib.hid ht
          clear hl hnd ht hc hmem
          go_wp2
          go_roundw
          case rel =>
            have hl6 := (HL5.out.set z (.bool true)).fn_congr (g := fun i => .bool (if i = z then true else need i)) (fun i _ => by by_cases e : i = z <;> simp [e])
            refine ⟨j + 1, by omega, by go_num, fun i => if i = z then true else need i, fun u hu => ?_, (hl6.swap.taken_congr (fun i hi => ?_) (fun i hi => ?_)).swap⟩
            · rw [← take_snoc' HT.out] at hu
              rcases List.mem_append.1 hu with hu | hu
              · have := HND.out u hu; simp [this]
              · simp at hu; subst hu; simp
            · rw [if_neg (by omega)]
            · simp [hi]
          case measure => simp [intOf]; omega
        · obtain rfl : j = k := by omega
          rw [List.take_of_length_le (by rw [HLN.out]; exact Nat.le_refl _)] at hnd
          have HL5 := Lib.hid hl; have HND := Lib.hid hnd
          clear hl hnd
          go_wp2
          go_loopw [15] (fun i wr => ∃ c : Int, -1 ≤ c ∧ c < (M : Int) ∧ i = .int .i64 c ∧ ∃ need I, (∀ t ∈ ts, need t.toNat = true) ∧ Lab w wr [Thing.fn (nb + 1) 4 M (fun i => .bool (need i)), Thing.taken I nb M L need c c, Thing.box vb 48 #[.slice av nv cv]]) (fun i _ => (intOf i + 1).toNat)
          case atStart => exact ⟨(M : Int) - 1, by omega, by omega, rfl, need, [], HND.out, HL5.out⟩
          case round =>
            obtain ⟨c, hc0, hcM, rfl, need, I2, hnd, hl⟩ := hrel
            by_cases hcn : 0 ≤ c
            · obtain ⟨z, rfl⟩ := Int.eq_ofNat_of_zero_le hcn
              have hcl := hl.fn1.cell (i := z) (by omega)
              obtain ⟨nd, hi⟩ : ∃ nd, L[z]? = some nd := ⟨_, List.getElem?_eq_getElem (by omega)⟩
              by_cases hne : need z = true
              · rw [hne] at hcl
                have HL6 := Lib.hid hl; have HND2 := Lib.hid hnd; have HI := Lib.hid hi; have HNE := Lib.hid hne
                have HGx := Lib.hid (HG.out.later hl.below)
                clear hl hnd hi hne
                go_wp2_with fail
                go_at_call 23
                refine (node_at HGx.out z nd HI.out).mono ?_
                rintro e w3 ⟨va, rfl, hva, hb3⟩
                obtain ⟨aa, am, ac, rfl⟩ := hva.val
                have hl7 := (HL6.out.new_ints hb3 hva).rot3
                obtain ⟨f0, hf0, -⟩ := hl7.taken
                have q0 := hf0.cell (i := z * 3) (by omega)
                have q1 := hf0.cell (i := z * 3 + 1) (by omega)
                have q2 := hf0.cell (i := z * 3 + 2) (by omega)
                have p0 := hf0.frozen (z * 3)
                have p1 := hf0.frozen (z * 3 + 1)
                have p2 := hf0.frozen (z * 3 + 2)
                have HL7 := Lib.hid hl7
                clear hl7 hf0 hva hb3
                go_upto_region 23 with fail
                refine wp_abs (fun w4 => ∃ I, Lab w w4 [Thing.taken I nb M L need ((z : Int) - 1) z, Thing.fn (nb + 1) 4 M (fun i => .bool (need i)), Thing.box vb 48 #[.slice av nv cv]]) ⟨_, HL7.out.taken_store HI.out (by omega)⟩ ?_
                rintro w4 ⟨I3, hl8⟩
                obtain ⟨vx, -, -, c2, hvx, -⟩ := hl8.taken.at (by omega) (by omega) HNE.out HI.out
                obtain ⟨ax, mx, cx, rfl, hmx, hcx⟩ := hvx.slice.parts
                have hmx3 : mx ≤ 3 := by
                  have := (HG.out.wf.ok nd (List.mem_of_getElem? HI.out)).2.2
                  have := aryN_le nd.1
                  omega
                have hargs := HG.out.wf.args z nd HI.out
                have HL8 := Lib.hid hl8; have HVX := Lib.hid hvx; have HMX := Lib.hid hmx; have HCX := Lib.hid hcx; have HARGS := Lib.hid hargs
                clear hl8 hvx hmx hcx q0 q1 q2 p0 p1 p2 hargs
                go_wp2
                go_loopw [85] (fun i wr => ∃ y : Nat, y ≤ mx ∧ i = .int .i64 y ∧ ∃ need' : Nat → Bool, (∀ i, need i = true → need' i = true) ∧ (∀ i, z ≤ i → need' i = need i) ∧ (∀ u ∈ nd.2.2.take y, need' u.toNat = true) ∧ KeepI w4 wr ∧ Lab w wr [Thing.fn (nb + 1) 4 M (fun i => .bool (need' i)), Thing.taken I3 nb M L need' ((z : Int) - 1) z, Thing.box vb 48 #[.slice av nv cv]]) (fun i _ => mx - (intOf i).toNat)
                case atStart => exact ⟨0, by omega, rfl, need, fun _ h => h, fun _ _ => rfl, by simp, KeepI.refl _, HL8.out.swap⟩
                case round =>
                  obtain ⟨y, hy, rfl, need', n1, n2, n3, hki, hl⟩ := hrel
                  by_cases hlt3 : y < mx
                  · obtain ⟨b, off, u, rfl, hc, hu⟩ := ((HVX.out.ints hki).slice).parts' hlt3
                    have hmem := List.mem_of_getElem? hu
                    obtain ⟨g, rfl⟩ := Int.eq_ofNat_of_zero_le (HARGS.out u hmem).1
                    have hgz : (g : Int) < (z : Int) := (HARGS.out _ hmem).2
                    have hgM : (g : Int) < (M : Int) := by omega
                    have hcl2 := hl.fn1.cell (i := g) (by omega)
                    have hfr2 := hl.fn1.frozen g
                    have HL9 := Lib.hid hl; have HN := Lib.hid (And.intro n1 (And.intro n2 n3)); have HU := Lib.hid hu; have HKI := Lib.hid hki
                    clear hl n1 n2 n3 hu hmem hki
                    go_wp2
                    go_roundw
                    case rel =>
                      have hl6 := (HL9.out.set g (.bool true)).fn_congr (g := fun i => .bool (if i = g then true else need' i)) (fun i _ => by by_cases e : i = g <;> simp [e])
                      refine ⟨y + 1, by omega, by go_num, fun i => if i = g then true else need' i, fun i hi => ?_, fun i hi => ?_, fun u hu => ?_, HKI.out.trans (KeepI.set HL9.out.fn1 (by decide) _ _), (hl6.swap.taken_congr (fun i hi => ?_) (fun i hi => ?_)).swap⟩
                      · simp [HN.out.1 i hi]
                      · show (if i = g then true else need' i) = need i
                        rw [if_neg (by omega)]; exact HN.out.2.1 i hi
                      · rw [← take_snoc' HU.out] at hu
                        rcases List.mem_append.1 hu with hu | hu
                        · have := HN.out.2.2 u hu; simp [this]
                        · simp at hu; subst hu; simp
                      · rw [if_neg (by omega)]
                      · simp [hi]
                    case measure => simp [intOf]; omega
                  · obtain rfl : y = mx := by omega
                    rw [List.take_of_length_le (by rw [HMX.out]; exact Nat.le_refl _)] at n3
                    have HL9 := Lib.hid hl; have HN := Lib.hid (And.intro n1 (And.intro n2 n3))
                    clear hl n1 n2 n3 hki
                    go_wp2
                    go_roundw
                    case rel => exact ⟨(z : Int) - 1, by omega, by omega, by go_num, need', I3, fun t ht => HN.out.1 _ (HND2.out t ht), (HL9.out.swap.taken_close HI.out HN.out.2.2).swap⟩
                    case measure => simp [intOf] <;> omega
              · rw [Bool.not_eq_true] at hne
                rw [hne] at hcl
                have HL6 := Lib.hid hl; have HND2 := Lib.hid hnd; have HNE := Lib.hid hne
                clear hl hnd hi hne
                go_wp2
                go_roundw
                case rel => exact ⟨(z : Int) - 1, by omega, by omega, by go_num, need, I2, HND2.out, (HL6.out.swap.taken_skip HNE.out).swap⟩
                case measure => simp [intOf] <;> omega
            · obtain rfl : c = -1 := by omega
              have HL6 := Lib.hid hl; have HND2 := Lib.hid hnd
              clear hl hnd
              have HGx := Lib.hid (HG.out.later HL6.out.below)
              have hmk3 := run_make_row' (P := Tryd.prog) 48 40 (.int .u64 0) 8 Tryd.underlying48 Tryd.infoU64 rfl .i64 .i64 M (by omega) (by omega)
              obtain ⟨q, hq⟩ : ∃ q, wr.heap.size = q := ⟨_, rfl⟩
              have hl7 := (HL6.out.make (n := M) (madeCells #[.int .u64 0] M) 40 (fun _ => .int .u64 0) (size_madeCells _ _) (fun i hi => by rw [madeCells_at _ _ i hi]; simp [Nat.mod_one])).alloc #[.slice (some ⟨q, 0, none⟩) M M] 48
              rw [World.size_alloc, hq] at hl7
              have HL7 := Lib.hid hl7
              clear hl7 hcM hc0 hcn
              go_upto_region 29 with fail
              clear hq
              refine wp_abs (fun w5 => Lab w w5 [Thing.box (q + 1) 48 #[.slice (some ⟨q, 0, none⟩) M M], Thing.fn q 40 M (fun _ => .int .u64 0), Thing.fn (nb + 1) 4 M (fun i => .bool (need i)), Thing.taken I2 nb M L need (-1) (-1), Thing.box vb 48 #[.slice av nv cv]]) HL7.out ?_
              rintro w5 hl5
              clear HL7 HL6 HGx hmk3
              have HGx := Lib.hid (HG.out.later hl5.below)
              obtain ⟨wb, hwb⟩ : ∃ wb, w5.heap.size = wb := ⟨_, rfl⟩
              have hl6 := hl5.alloc #[.int .i64 W] 3
              rw [hwb] at hl6
              have HL6 := Lib.hid hl6
              clear hl5 hl6
              go_upto_region 31 with (go_at_call 30; refine (width_any HGx.out).mono ?_; rintro e w2 ⟨rfl, rfl⟩)
              clear hwb
              refine wp_abs (fun w6 => Lab w w6 [Thing.box wb 3 #[.int .i64 W], Thing.box (q + 1) 48 #[.slice (some ⟨q, 0, none⟩) M M], Thing.fn q 40 M (fun _ => .int .u64 0), Thing.fn (nb + 1) 4 M (fun i => .bool (need i)), Thing.taken I2 nb M L need (-1) (-1), Thing.box vb 48 #[.slice av nv cv]]) HL6.out ?_
              rintro w6 hl6
              clear HL6
              have HL6 := Lib.hid hl6
              have s0 : w6.cell? ⟨q + 1, 0, none⟩ = some (.slice (some ⟨q, 0, none⟩) M M) := by rw [cell_of_row w6 _ 0 _ _ _ hl6.box2]; rfl
              clear hl6
              go_wp2
              clear s0
              go_loopw [101] (fun i wr => ∃ y : Nat, y ≤ M ∧ i = .int .i64 y ∧ Lab w wr [Thing.fn q 40 M (fun i => .int .u64 (if i < y ∧ need i = true then val W vals L i else 0)), Thing.box wb 3 #[.int .i64 W], Thing.box (q + 1) 48 #[.slice (some ⟨q, 0, none⟩) M M], Thing.fn (nb + 1) 4 M (fun i => .bool (need i)), Thing.taken I2 nb M L need (-1) (-1), Thing.box vb 48 #[.slice av nv cv]]) (fun i _ => M - (intOf i).toNat)
              case atStart => exact ⟨0, by omega, rfl, HL6.out.rot3.fn_congr fun i _ => by simp⟩
              case round =>
                obtain ⟨y, hy, rfl, hl⟩ := hrel
                by_cases hlt3 : y < M
                · have hcl := hl.fn4.cell hlt3
                  obtain ⟨nd, hi⟩ : ∃ nd, L[y]? = some nd := ⟨_, List.getElem?_eq_getElem (by omega)⟩
                  by_cases hne : need y = true
                  · rw [hne] at hcl
                    have hld := hl.later (Below.refl _ _).drew
                    obtain ⟨vx, c0, c1, c2, hvx, hcls⟩ := Taken.at hld.fifth (t := y) (by omega) hlt3 hne hi
                    have b6 : wr.drew.heap[vb]? = _ := hld.sixth
                    have hargs := HG.out.wf.args y nd hi
                    have hval := value_any vb wb (q + 1) q M W (.slice av nv cv) vx vals (valsL W vals L) _ nd (by rw [cell_of_row _ _ 0 _ _ _ b6]; rfl) (HVV.out.below hld.below) HVL.out HVU.out (by rw [cell_of_row _ _ 0 _ _ _ hld.box2]; rfl) HG.out.w1 HG.out.w2 (by rw [cell_of_row _ _ 0 _ _ _ hld.box3]; rfl) hld.fn1 hvx.slice (HG.out.wf.ok nd (List.mem_of_getElem? hi)) (fun a ha => by have := hargs a ha; omega) (fun a ha => by
                      have := hargs a ha
                      refine ⟨?_, val_u64 HG.out.w1 HG.out.w2 vals HG.out.wf a.toNat⟩
                      show Value.int .u64 (if a.toNat < y ∧ need a.toNat = true then val W vals L a.toNat else 0) = _
                      rw [if_pos ⟨by omega, hcls (by omega) a ha⟩]; rfl)
                    rw [← val_at HG.out.wf hi] at hval
                    obtain ⟨a3, m3, k3, rfl⟩ : ∃ a m c, vx = .slice a m c := by obtain ⟨a, m, c, e, _⟩ := hvx; exact ⟨a, m, c, e⟩
                    have s0 : wr.drew.cell? ⟨q + 1, 0, none⟩ = some (.slice (some ⟨q, 0, none⟩) M M) := by rw [cell_of_row _ _ 0 _ _ _ hld.box3]; rfl
                    have hap := (List.pairwise_cons.1 hld.apart).1 (Thing.taken I2 nb M L need (-1) (-1)) (by simp)
                    have hqn : nb ≠ q := fun e => (hap.1 q (by simp [Thing.fn])).1 (by simp [Thing.taken, e])
                    have hqn' : q ≠ nb := hqn.symm
                    clear hap
                    have HL7 := Lib.hid hld; have HVAL := Lib.hid hval; have HNE := Lib.hid hne
                    clear hl hld hi hvx hcls b6 hargs hval hne
                    go_wp2
                    go_region_held3 (fun w' => w'.cell? ⟨q + 1, 0, none⟩ = some (.slice (some ⟨q, 0, none⟩) M M) ∧ w'.cell? ⟨nb, y * 3, none⟩ = some (.int .u8 nd.1) ∧ w'.cell? ⟨nb, y * 3 + 1, none⟩ = some (.int .u64 nd.2.1) ∧ w'.cell? ⟨nb, y * 3 + 2, none⟩ = some (.slice a3 m3 k3))
                      (first | exact ⟨s0, c0, c1, c2⟩ | exact ⟨by assumption, by assumption, by assumption, by assumption⟩ | go_keep)
                      ((go_at_call 56; refine HVAL.out.mono ?_; rintro e w7 ⟨rfl, hb7⟩; have hl8 := HL7.out.later hb7; have s1 := cell_later hb7 s0; have s2 := cell_later hb7 c0; have s3 := cell_later hb7 c1; have s4 := cell_later hb7 c2; have s5 := hl8.fn1.cell hlt3; have s6 := hl8.fn1.frozen y))
                    have HL8 := Lib.hid hl8
                    clear hl8 hb7 s1 s2 s3 s4 s5 s6 s0 c0 c1 c2
                    go_wp2
                    go_roundw
                    case rel =>
                      refine ⟨y + 1, by omega, by go_num, (HL8.out.set y _).fn_congr fun i _ => ?_⟩
                      by_cases e : i = y
                      · rw [if_pos e, e, if_pos ⟨by omega, HNE.out⟩]
                      · rw [if_neg e]
                        have hiff : (i < y ∧ need i = true) ↔ (i < y + 1 ∧ need i = true) := ⟨fun h => ⟨by omega, h.2⟩, fun h => ⟨by omega, h.2⟩⟩
                        simp only [hiff]
                    case measure => simp [intOf]; omega
                  · rw [Bool.not_eq_true] at hne
                    rw [hne] at hcl
                    have HL7 := Lib.hid hl; have HNE := Lib.hid hne
                    clear hl hi hne
                    go_wp2
                    go_roundw
                    case rel =>
                      refine ⟨y + 1, by omega, by go_num, HL7.out.fn_congr fun i _ => ?_⟩
                      have hiff : (i < y ∧ need i = true) ↔ (i < y + 1 ∧ need i = true) := ⟨fun h => ⟨by omega, h.2⟩, fun h => ⟨by
                        rcases Nat.lt_or_ge i y with h1 | h1
                        · exact h1
                        · obtain rfl : i = y := by omega
                          rw [HNE.out] at h; simp at h, h.2⟩⟩
                      simp only [hiff]
                    case measure => simp [intOf]; omega
                · obtain rfl : y = M := by omega
                  have hmk4 := run_make_row' (P := Tryd.prog) 48 40 (.int .u64 0) 8 Tryd.underlying48 Tryd.infoU64 rfl .i64 .i64 j (by omega) (by omega)
                  obtain ⟨ob, hob⟩ : ∃ ob, wr.heap.size = ob := ⟨_, rfl⟩
                  have hl7 := hl.drop
                  have hl8 := (hl.swap.drop.swap.rot3.drop.swap).make (n := j) (madeCells #[.int .u64 0] j) 40 (fun _ => .int .u64 0) (size_madeCells _ _) (fun i hi => by rw [madeCells_at _ _ i hi]; simp [Nat.mod_one])
                  rw [hob] at hl8
                  have hob2 := hl.size
                  rw [hob] at hob2
                  have HL8 := Lib.hid hl8
                  clear hl hl7 hl8
                  go_upto_region 38 with fail
                  clear hob hmk4
                  refine wp_abs (fun w7 => Lab w w7 [Thing.fn ob 40 j (fun _ => .int .u64 0), Thing.fn q 40 y (fun i => .int .u64 (if i < y ∧ need i = true then val W vals L i else 0)), Thing.box (q + 1) 48 #[.slice (some ⟨q, 0, none⟩) y y], Thing.taken I2 nb y L need (-1) (-1), Thing.box vb 48 #[.slice av nv cv]]) HL8.out ?_
                  rintro w7 hl7
                  have HL7 := Lib.hid hl7
                  clear hl7 HL8
                  go_wp2
                  go_loopw [123] (fun i wr => ∃ x : Nat, x ≤ j ∧ i = .int .i64 x ∧ Lab w wr [Thing.fn ob 40 j (fun i => .int .u64 (if i < x then (allV W vals L ts).getD i 0 else 0)), Thing.fn q 40 y (fun i => .int .u64 (if i < y ∧ need i = true then val W vals L i else 0)), Thing.box (q + 1) 48 #[.slice (some ⟨q, 0, none⟩) y y]]) (fun i _ => j - (intOf i).toNat)
                  case atStart => exact ⟨0, by omega, rfl, HL7.out.rot5.drop.rot4.drop.fn_congr fun i _ => by simp⟩
                  case round =>
                    obtain ⟨x, hx, rfl, hl⟩ := hrel
                    by_cases hlt4 : x < j
                    · obtain ⟨b, off, t, rfl, hc, ht⟩ := HC.out x hlt4
                      have hc1 := cell_later hl.below hc
                      have hmem := List.mem_of_getElem? ht
                      obtain ⟨z, rfl⟩ := Int.eq_ofNat_of_zero_le (HALL.out t hmem).1
                      have hzM : (z : Int) < (y : Int) := by have := HLAST.out _ hmem; omega
                      have hcl := hl.fn2.cell (i := z) (by omega)
                      have hndz := HND2.out _ hmem
                      rw [Int.toNat_natCast] at hndz
                      rw [if_pos ⟨by omega, hndz⟩] at hcl
                      have s0 : wr.cell? ⟨q + 1, 0, none⟩ = some (.slice (some ⟨q, 0, none⟩) y y) := by rw [cell_of_row _ _ 0 _ _ _ hl.box3]; rfl
                      have s1 := hl.fn1.cell hlt4
                      have s2 := hl.fn1.frozen x
                      have hgv : (allV W vals L ts).getD x 0 = val W vals L z := by
                        unfold allV
                        rw [List.getD_eq_getElem?_getD, List.getElem?_map, ht]; rfl
                      have HL8 := Lib.hid hl; have HGV := Lib.hid hgv
                      clear hl hc ht hmem hndz hgv
                      go_wp2
                      go_roundw
                      case rel =>
                        refine ⟨x + 1, by omega, by go_num, (HL8.out.set x _).fn_congr fun i _ => ?_⟩
                        by_cases e : i = x
                        · rw [if_pos e, e, if_pos (by omega), HGV.out]
                        · rw [if_neg e]
                          have hiff : (i < x) ↔ (i < x + 1) := ⟨fun h => by omega, fun h => by omega⟩
                          simp only [hiff]
                      case measure => simp [intOf]; omega
                    · obtain rfl : x = j := by omega
                      have hlen : (allV W vals L ts).length = x := by unfold allV; rw [List.length_map]; exact HLN.out
                      have hres := owns_of_row (base := w.heap.size) (xs := allV W vals L ts) hl.fn1 hob2 hlen (by unfold maxLen; omega) (fun i hi => by rw [if_pos hi])
                      have HRES := Lib.hid (And.intro hres hl.below)
                      clear hl hlen hres
                      go_wp2
                      go_ret2
                      exact ⟨_, _, _, rfl, HRES.out.1, HRES.out.2⟩
end Go.Proofs.YtiklidgcmheofaaDoor
