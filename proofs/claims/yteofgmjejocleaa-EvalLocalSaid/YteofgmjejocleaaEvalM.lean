/- EvalMissing of law 11. -/
import Derived.Test.YteofgmjejocleaaEvalI
import Derived.Lib.AppendZeros
namespace Go.Proofs.Yteofgmjejocleaa
open Go.RowKit Go.Maps
set_option maxHeartbeats 1600000

/-- More zeros change nothing. -/
theorem valN_zeros {W : Nat} {vals vals2 acc : List Int} {n : PNode} (h : ∀ i, vals.getD i 0 = vals2.getD i 0) : valN W vals acc n = valN W vals2 acc n := by
  unfold valN
  split
  · rfl
  · split
    · have e := h n.2.1
      have hz : ∀ (vs : List Int), ¬ n.2.1 < vs.length → vs.getD n.2.1 0 = 0 := fun vs hn => by rw [List.getD_eq_getElem?_getD, List.getElem?_eq_none (by omega)]; rfl
      by_cases h1 : n.2.1 < vals.length
      · rw [if_pos h1]
        by_cases h2 : n.2.1 < vals2.length
        · rw [if_pos h2, e]
        · rw [if_neg h2, e, hz vals2 h2]; simp
      · rw [if_neg h1]
        by_cases h2 : n.2.1 < vals2.length
        · rw [if_pos h2, ← e, hz vals h1]; simp
        · rw [if_neg h2]
    · rfl
theorem valsL_zeros {W : Nat} {vals vals2 : List Int} (h : ∀ i, vals.getD i 0 = vals2.getD i 0) (L : List PNode) : valsL W vals L = valsL W vals2 L := by
  refine snoc_ind (p := fun L => valsL W vals L = valsL W vals2 L) rfl (fun L n ih => ?_) L
  rw [valsL_snoc, valsL_snoc, ih, valN_zeros h]
theorem val_zeros {W : Nat} {vals vals2 : List Int} (h : ∀ i, vals.getD i 0 = vals2.getD i 0) (L : List PNode) (i : Nat) : val W vals L i = val W vals2 L i := by
  unfold val; rw [valsL_zeros h]
theorem getD_zeros (xs : List Int) (m i : Nat) : (xs ++ List.replicate m 0).getD i 0 = xs.getD i 0 := by
  rw [List.getD_eq_getElem?_getD, List.getD_eq_getElem?_getD]
  rcases Nat.lt_or_ge i xs.length with h | h
  · rw [List.getElem?_append_left h]
  · rw [List.getElem?_append_right h, List.getElem?_eq_none h, List.getElem?_replicate]
    split <;> rfl
section
variable {P : Program}
/-- append(x, make(.., m)...): zeros onto an own slice. -/
theorem run_append_zeros (w : World) (base t tn ty e : Nat) (z : Value) (bytes : Nat) (ht : P.underlying t = some (.slice e)) (kn : IntKind) (htn : P.underlying tn = some (.int kn)) (hi : (P.info? e).map (fun i => (i.zero, i.size, i.bytes)) = some (some z, 1, bytes)) (hzc : z.cells = #[z]) (hz1 : z.oneCell' = true) (hby : bytes ≤ 1000)
    (v : Value) (n : Nat) (xs : List Value) (hown : w.ownsRow base e 1 v n xs) (m : Nat) (k : IntKind) (hn : n + m ≤ 1000000) (hbase : base ≤ w.heap.size) :
    ∃ v' w', (Builtin.append_ #[t, tn] ty #[v, .int k m]).run P w = .ok v' w' ∧ w'.ownsRow base e 1 v' (n + m) (xs ++ List.replicate m z) ∧ w.grownBy w' v.ownBlock ∧ ∀ b, v'.ownBlock = some b → v.ownBlock = some b ∨ w.heap.size ≤ b := by
  obtain ⟨i, hi0, hz0, hs1, hb1⟩ := info_parts hi
  have hw : IntKind.i64.wrap (m : Int) = m := by rw [IntKind.wrap_i64]; omega
  have hneg : ¬ ((m : Int) < 0) := by omega
  have hmb : m * bytes ≤ 1000000 * 1000 := Nat.mul_le_mul (by omega) hby
  have hnb : (n + m) * bytes ≤ 1000000 * 1000 := Nat.mul_le_mul hn hby
  have h48i : ¬ (281474976710656 < (m : Int) * (bytes : Int)) := by
    rw [← Int.natCast_mul]; omega
  have hzm : Builtin.zeroCells #[z] m = (List.replicate m z).toArray := by
    apply Array.ext'
    simp [Builtin.zeroCells, Nat.mod_one]
    apply List.ext_getElem?
    intro j
    simp only [List.getElem?_map, List.getElem?_range', List.getElem?_replicate, List.getElem?_range]
    split <;> simp_all
  rcases hown.2 with ⟨rfl, rfl⟩ | ⟨g, cap, cur, rfl, hbg, hg, hnc, hcm, hcs, htake⟩
  · have hx : xs = [] := List.eq_nil_of_length_eq_zero (by simpa using hown.1)
    subst hx
    by_cases hm : m = 0
    · subst hm
      refine ⟨.slice none 0 0, w, ?_, by simpa using World.ownsRow_nil w base e 1, ⟨rfl, rfl, rfl, Nat.le_refl _, fun _ _ _ => rfl⟩, fun b hb => .inl hb⟩
      simp [Builtin.append_, run_underlying ht, run_underlying htn, sizeOf, typeInfo, hi0, asInt, asIntOf, IntKind.wrap_i64]
    · have hr := Lib.run_append_nil_zeros (P := P) w t tn ty e i z k kn ht htn hi0 hz0 m (by omega) (by omega) (by omega) (by rw [hb1]; omega)
      refine ⟨_, _, hr, ⟨by simp, .inr ⟨w.heap.size, _, _, by rw [Nat.zero_add], hbase, heap_alloc_new w.drew _, by rw [Nat.zero_add]; exact grownCap_ge _ _ _ _, grownCap_le_maxLen _ _ _ _ (by unfold maxLen; omega), ?_, ?_⟩⟩, ⟨rfl, rfl, rfl, by simp, fun k hk _ => heap_alloc_old _ _ hk⟩, fun b hb => .inr (by simp [Value.ownBlock] at hb; omega)⟩
      · simp only [hzc, Array.size_append, size_zeroCells]
        have := grownCap_ge w m 0 e
        simp; omega
      · rw [hzc, hzm]; simp
  · by_cases hroom : n + m ≤ cap
    · by_cases hm : m = 0
      · subst hm
        refine ⟨.slice (some ⟨g, 0, none⟩) n cap, w, ?_, by simpa using hown, ⟨rfl, rfl, rfl, Nat.le_refl _, fun _ _ _ => rfl⟩, fun b hb => .inl hb⟩
        simp [Builtin.append_, run_underlying ht, run_underlying htn, sizeOf, typeInfo, hi0, asInt, asIntOf, IntKind.wrap_i64, hnc, storeCells]
      · have hst := run_storeCells_at P g n e (List.replicate m z) 0 cur w hg (by rw [List.length_replicate]; omega) (fun u hu => by rw [(List.mem_replicate.1 hu).2]; exact hz1)
        simp only [Nat.add_zero] at hst
        refine ⟨.slice (some ⟨g, 0, none⟩) (n + m) cap, w.setRow g (cur.toList.take n ++ List.replicate m z ++ cur.toList.drop (n + (List.replicate m z).length)).toArray, ?_, ⟨by rw [List.length_append, hown.1, List.length_replicate]; omega, .inr ⟨g, cap, _, rfl, hbg, setRow_heap w g cur _ e _ hg, hroom, hcm, ?_, ?_⟩⟩, ⟨rfl, rfl, rfl, by simp, fun k _ hk => setRow_other w g k _ (fun e => hk (by simp [Value.ownBlock, e]))⟩, fun b hb => .inl hb⟩
        · simp [Builtin.append_, run_underlying ht, run_underlying htn, sizeOf, typeInfo, zeroValue, hi0, hz0, hs1, hb1, asInt, asIntOf, hw, hneg, h48i, hm, hroom, hzc, hzm, Addr.add_lit, hst]
        · simp only [List.size_toArray, List.length_append, List.length_take, List.length_drop, Array.length_toList, List.length_replicate]
          omega
        · have hl : (xs ++ List.replicate m z).length = n + m := by rw [List.length_append, hown.1, List.length_replicate]; omega
          rw [Nat.mul_one] at htake
          show ((cur.toList.take n ++ List.replicate m z ++ cur.toList.drop (n + (List.replicate m z).length)).toArray.toList.take ((n + m) * 1)) = _
          rw [htake, Nat.mul_one, ← hl]
          exact List.take_left
    · have hm : m ≠ 0 := by omega
      have holds : ∀ j u, xs[j]? = some u → w.cell? ((⟨g, 0, none⟩ : Addr).add j) = some u := hown.cells (g := g) rfl
      have hfo := run_firstCells_some (P := P) w.drew 1 n ⟨g, 0, none⟩ n cap xs hown.1 (by simpa using holds)
      have h48' : ¬ (281474976710656 < Builtin.nextslicecap (n + m) cap * bytes) := by have := growslice_fits (need := n + m) (old := cap) (bytes := bytes) (by omega) (by omega); omega
      have h63' : ¬ (9223372036854775807 < ((n : Int) + (m : Int))) := by omega
      refine ⟨.slice (some ⟨w.heap.size, 0, none⟩) (n + m) (grownCap w (n + m) cap e), w.drew.alloc (.cells (xs.toArray ++ (List.replicate m z).toArray ++ Builtin.zeroCells z.cells (grownCap w (n + m) cap e - (n + m))) e), ?_, ⟨by rw [List.length_append, hown.1, List.length_replicate]; omega, .inr ⟨w.heap.size, _, _, rfl, hbase, heap_alloc_new w.drew _, grownCap_ge _ _ _ _, grownCap_le_maxLen _ _ _ _ (by unfold maxLen; omega), ?_, ?_⟩⟩, ⟨rfl, rfl, rfl, by simp, fun k hk _ => heap_alloc_old _ _ hk⟩, fun b hb => .inr (by simp [Value.ownBlock] at hb; omega)⟩
      · simp [Builtin.append_, run_underlying ht, run_underlying htn, sizeOf, typeInfo, zeroValue, hi0, hz0, hs1, hb1, asInt, asIntOf, hw, hneg, h48i, hm, hroom, h63', h48', hzc, hzm, Question.forced, hfo, newRow, grownCap]
      · have := grownCap_ge w (n + m) cap e
        simp only [Array.size_append, List.size_toArray, size_zeroCells, hzc, hown.1, List.length_replicate]
        simp; omega
      · have hl : (xs ++ List.replicate m z).length = n + m := by rw [List.length_append, hown.1, List.length_replicate]; omega
        simp only [Array.toList_append, List.append_assoc]
        rw [← List.append_assoc, Nat.mul_one, ← hl]
        exact List.take_left
end
theorem Lab.regrown {w0 wr w' : World} {ts : List Thing} {v v' : Value} {xs ys : List Int} (h : Lab w0 wr (Thing.nums v xs :: ts)) (hown : OwnInts w' 0 25 .u64 v' ys) (hg : wr.grownBy w' v.ownBlock) (hb : ∀ b, v'.ownBlock = some b → v.ownBlock = some b ∨ wr.heap.size ≤ b) :
    Lab w0 w' (Thing.nums v' ys :: ts) := by
  refine h.turn (s' := Thing.nums v' ys) ⟨hg.os, hg.tape, hg.output, hg.size, fun k hk hn => hg.block k hk (fun e => hn (by simp [Thing.nums, Thing.row, ← e]))⟩ hown (fun k hk => ?_) (fun k hk => by simp [Thing.nums, Thing.row] at hk) (fun k hk => ?_)
  · have hk' : v'.ownBlock = some k := by simpa [Thing.nums, Thing.row] using hk
    exact (hb k hk').imp (fun e => by simp [Thing.nums, Thing.row, e]) id
  · rcases hk with hk | hk
    · exact (World.ownsRow.lt hown k (by simpa [Thing.nums, Thing.row] using hk)).2
    · simp [Thing.nums, Thing.row] at hk
/-- Fill of the beginning of a list. -/
theorem fill_some {w : World} (Wi : Int) (a : Option Addr) (n cap : Nat) (qs : List PAsk) (hv : AsksOf w (.slice a n cap) qs) (hq : n ≤ 9223372036854775807) (m : Nat) (hm : m ≤ n) :
    Calls Try.prog 25 #[.int .i64 Wi, .slice a m cap] w fun e w' => ∃ gb F I a' m' c L, L.length ≤ 120 ∧ L.length ≤ m ∧ GoodL ((Wi % 64).toNat + 1) L ∧ VarsLt 6 L ∧ e = .returned (.tuple #[.pointer (some ⟨gb, 0, none⟩), .slice a' m' c]) ∧ Lab w w' [Thing.graph F I gb ((Wi % 64).toNat + 1) 1048576 L] := by
  refine (fill_lab Wi _ _ (hv.take m cap hm) (by have := List.length_take_le m qs; omega)).mono ?_
  rintro e w' ⟨gb, F, I, a', m', c, rfl, hl⟩
  have h1 := (fillS_len ((Wi % 64).toNat + 1) ((qs.take m).take 120)).1
  have h2 := List.length_take_le 120 (qs.take m)
  have h3 := List.length_take_le m qs
  have h4 : ((qs.take m).take 120).length ≤ (qs.take m).length := by rw [List.length_take]; omega
  exact ⟨gb, F, I, a', m', c, _, by omega, by omega, fillS_good _ _, fillS_vars _ _, rfl, hl.swap.drop⟩
theorem make40 (w : World) : (Instr.makeSlice 29 (.int .i64 40) (.int .i64 40)).run Try.prog w = .ok (.slice (some ⟨w.heap.size, 0, none⟩) 40 40) (w.alloc (.cells (madeCells #[.int .u64 0] 40) 25)) :=
  run_make_row' (P := Try.prog) 29 25 (.int .u64 0) 8 Try.underlying29 Try.infoU64 rfl .i64 .i64 40 (by omega) (by omega) w
set_option maxRecDepth 100000 in
theorem evalMissing_walk {w : World} (Wi Zi : Int) (v v3 : Value) (qs : List PAsk) (hv : AsksOf w v qs) (hq : qs.length ≤ 9223372036854775807) (hcq : ∀ a n c, v = .slice a n c → n ≤ c) (vals : List Int) (hv3 : SliceOf w .u64 v3 vals) (hvu : U64s vals) (hn3 : vals.length ≤ 9223372036854775807) (hc3 : ∀ a n c, v3 = .slice a n c → n ≤ c) :
    Calls Try.prog 9 #[.int .i64 Wi, v, v3, .int .i64 Zi] w fun e w' => e = .returned (.bool true) ∧ Below w.heap.size w w' := by
  obtain ⟨a3, n3, cap3, rfl, hl3, -⟩ := hv3.parts
  have hcap3 := hc3 _ _ _ rfl
  rw [hl3] at hn3
  obtain ⟨a, cap, rfl⟩ := hv.parts
  have hcap := hcq _ _ _ rfl
  obtain ⟨n, hn⟩ : ∃ n, qs.length = n := ⟨_, rfl⟩
  rw [hn] at hv hq hcap ⊢
  have hfill := fill_some Wi a n cap qs hv hq
  obtain ⟨W, hW⟩ : ∃ W, (Wi % 64).toNat + 1 = W := ⟨_, rfl⟩
  rw [hW] at hfill
  have hW1 : 1 ≤ W := by omega
  have hW2 : W ≤ 64 := by omega
  obtain ⟨zn, hzn⟩ : ∃ zn : Nat, Zi % 40 = (zn : Int) := ⟨(Zi % 40).toNat, by have := Int.emod_nonneg Zi (show (40 : Int) ≠ 0 by decide); omega⟩
  have hz40 : zn < 40 := by have := Int.emod_lt_of_pos Zi (show (0 : Int) < 40 by decide); omega
  have hmod := fun wx => mod_any Zi 40 (by decide) (by decide) wx
  rw [hzn] at hmod
  have HF := Lib.hid hfill; have HV3 := Lib.hid hv3; have HVU := Lib.hid hvu; have HL3 := Lib.hid hl3; have HMOD := Lib.hid hmod
  clear hv hv3 hvu hc3 hl3 hfill hW hn hcq hmod hzn
  go_enter Try.func9, Try.ntmps9
  go_upto_region 1 with fail
  go_cut [9, 10] (fun g t wx => ∃ gb F I a' m c L, L.length ≤ 120 ∧ GoodL W L ∧ g = .pointer (some ⟨gb, 0, none⟩) ∧ t = .slice a' m c ∧ Lab w wx [Thing.graph F I gb W 1048576 L])
  case first =>
    by_cases h100 : (100 : Int) < (n : Int)
    · have HF1 := Lib.hid (HF.out 100 (by omega))
      go_wp2_with fail
      go_at_call 25
      refine HF1.out.mono ?_
      rintro e w1 ⟨gb, F, I, a', m, c, L, hL, -, hG, -, rfl, hlab⟩
      go_wp2
      go_meet
      exact ⟨gb, F, I, a', m, c, L, hL, hG, rfl, rfl, hlab⟩
    · have HF1 := Lib.hid (HF.out n (by omega))
      go_wp2_with fail
      go_at_call 25
      refine HF1.out.mono ?_
      rintro e w1 ⟨gb, F, I, a', m, c, L, hL, -, hG, -, rfl, hlab⟩
      go_wp2
      go_meet
      exact ⟨gb, F, I, a', m, c, L, hL, hG, rfl, rfl, hlab⟩
  case rest =>
    obtain ⟨gb, F, I, a', m, c, L, hL, hG, rfl, rfl, hlab⟩ := hcut
    have HL0 := Lib.hid hlab
    clear hlab
    go_upto_region 4 with fail
    go_cut [2] (fun v3 wx => ∃ m3, v3 = .slice a3 m3 cap3 ∧ m3 ≤ n3 ∧ m3 ≤ 30 ∧ Lab w wx [Thing.graph F I gb W 1048576 L])
    case first =>
      by_cases h30 : (30 : Int) < (n3 : Int)
      · go_wp2
        go_meet
        exact ⟨_, rfl, by omega, by omega, HL0.out⟩
      · go_wp2
        go_meet
        exact ⟨_, rfl, by omega, by omega, HL0.out⟩
    case rest =>
      obtain ⟨m3, rfl, h31, h32, hl⟩ := hcut
      have hvs := HV3.out.take m3 cap3 h31
      obtain ⟨vs, hvs0⟩ : ∃ vs, vals.take m3 = vs := ⟨_, rfl⟩
      have hvsu := HVU.out.take m3
      have hvl : vs.length = m3 := by rw [← hvs0, List.length_take, HL3.out]; omega
      rw [hvs0] at hvs hvsu
      have hvsw := hvs.below hl.below
      have hvl30 : vs.length ≤ 1000000000 := by omega
      have HVS := Lib.hid hvs; have HVSU := Lib.hid hvsu; have HVL := Lib.hid hvl; have HL := Lib.hid hl
      clear hvs hvs0 hvsu hl hvl HVU HV3 HL3 HL0
      go_wp2_with (at_builtin; refine wpList_append_copy 29 25 .u64 8 _ _ _ vs hvsw _ _ rfl rfl Try.underlying29 Try.infoU64 (by decide) rfl rfl hvl30 (Nat.le_refl _) ?_; intro v1 w2 hown2 hb2)
      have HL2 := Lib.hid (HL.out.new_nums hb2 hown2)
      have HO2 := Lib.hid hown2
      clear hb2 hvsw hown2
      go_at_call 15
      refine (HMOD.out _).mono ?_
      rintro e w3 ⟨rfl, rfl⟩
      obtain ⟨v2, w3, hr3, hown3, hg3, hb3⟩ := run_append_zeros (P := Try.prog) w2 0 29 3 29 25 (.int .u64 0) 8 Try.underlying29 .i64 Try.underlying3 Try.infoU64 rfl rfl (by decide) v1 vs.length (vs.map (Value.int .u64)) HL2.out.nums zn .i64 (by have := HVL.out; omega) (Nat.zero_le _)
      have hown3' : OwnInts w3 0 25 .u64 v2 (vs ++ List.replicate zn 0) := by
        unfold OwnInts
        rw [List.length_append, List.length_replicate, List.map_append, List.map_replicate]
        exact hown3
      have hl3 := (HL2.out.regrown hown3' hg3 hb3).swap
      have HL3 := Lib.hid hl3
      have hlz : (vs ++ List.replicate zn (0 : Int)).length ≤ 70 := by rw [List.length_append, List.length_replicate]; have := HVL.out; omega
      obtain ⟨av2, nv2, cv2, rfl⟩ := hown3'.val
      have hux : U64s (vs ++ List.replicate zn 0) := by
        intro x hx
        rcases List.mem_append.1 hx with hx | hx
        · exact HVSU.out x hx
        · rw [(List.mem_replicate.1 hx).2]; exact ⟨by omega, by omega⟩
      have hzv : ∀ i, val W vs L i = val W (vs ++ List.replicate zn 0) L i := fun i => val_zeros (fun j => (getD_zeros vs zn j).symm) L i
      have hz0 : ∀ i, val W [] L i = val W (List.replicate 40 0) L i := fun i => val_zeros (fun j => (getD_zeros [] 40 j).symm) L i
      have HUX := Lib.hid hux; have HZV := Lib.hid hzv; have HZ0 := Lib.hid hz0; have HLZ := Lib.hid hlz; have HR3 := Lib.hid hr3
      clear hown3 hown3' hg3 hb3 hl3 hlz hux hzv hz0 hr3
      go_wp2_with (at_builtin; refine Lib.wpList_append_run _ rfl _ _ 29 3 rfl _ _ rfl rfl _ _ HR3.out ?_)
      have hmk := make40
      go_loopw [12] (fun i wr => ∃ k : Nat, k ≤ L.length ∧ i = .int .i64 k ∧ Lab w wr [Thing.graph F I gb W 1048576 L, Thing.nums (.slice av2 nv2 cv2) (vs ++ List.replicate zn 0)]) (fun i _ => L.length - (intOf i).toNat)
      case atStart => exact ⟨0, by omega, rfl, HL3.out⟩
      case round =>
        obtain ⟨k, hk, rfl, hl⟩ := hrel
        have HLk := Lib.hid hl
        clear hl
        by_cases hlt : k < L.length
        · obtain ⟨x, hx⟩ : ∃ x, val W vs L k = x := ⟨_, rfl⟩
          obtain ⟨y, hy⟩ : ∃ y, val W [] L k = y := ⟨_, rfl⟩
          have e1 : evalR W vs L (k : Int) = (x, 0) := by rw [evalR_in hlt, hx]
          have e2 : evalR W (vs ++ List.replicate zn 0) L (k : Int) = (x, 0) := by rw [evalR_in hlt, ← HZV.out, hx]
          have e3 : evalR W [] L (k : Int) = (y, 0) := by rw [evalR_in hlt, hy]
          have e4 : evalR W (List.replicate 40 0) L (k : Int) = (y, 0) := by rw [evalR_in hlt, ← HZ0.out, hy]
          have t1 : (x != x) = false := by simp
          have t2 : (y != y) = false := by simp
          have E1 := Lib.hid e1; have E2 := Lib.hid e2; have E3 := Lib.hid e3; have E4 := Lib.hid e4
          clear e1 e2 e3 e4 hx hy
          go_wp2_with (go_at_call 26; refine (len_any HLk.out.gr).mono ?_; rintro e w4 ⟨rfl, rfl⟩)
          go_at_call 11
          refine (HLk.out.eval k vs _ (HVS.out.below HLk.out.below) (by have := HVL.out; omega) HVSU.out E1.out).mono ?_
          rintro e w5 ⟨rfl, h5⟩
          have H5 := Lib.hid h5; clear h5
          go_wp2_with fail
          go_at_call 11
          refine (H5.out.eval k _ _ (nums_slice H5.out.second) (by have := HLZ.out; omega) HUX.out E2.out).mono ?_
          rintro e w6 ⟨rfl, h6⟩
          have H6 := Lib.hid h6; clear h6
          go_wp2_with fail
          go_at_call 11
          refine (H6.out.eval k [] _ (sliceOf_nil _ _) (by decide) (by simp [U64s]) E3.out).mono ?_
          rintro e w7 ⟨rfl, h7⟩
          have H7 := Lib.hid h7; clear h7
          go_wp2_with fail
          go_at_call 11
          refine ((H7.out.grL _).eval k (List.replicate 40 0) _ (slice_of_row (World.rowIs_made w7 (.int .u64 0) 40 25) (by simp) (fun i hi => by rw [List.getD_eq_getElem?_getD, List.getElem?_replicate, if_pos hi]; rfl)) (by simp) (fun q hq => by rw [(List.mem_replicate.1 hq).2]; exact ⟨by omega, by omega⟩) E4.out).mono ?_
          rintro e w8 ⟨rfl, h8⟩
          have H8 := Lib.hid h8; clear h8
          go_wp2
          go_roundw
          case rel => exact ⟨k + 1, by omega, by go_num, H8.out⟩
          case measure => simp [intOf]; omega
        · obtain rfl : k = L.length := by omega
          go_wp2_with (first | (go_at_call 26; refine (len_any HLk.out.gr).mono ?_; rintro e w2 ⟨rfl, rfl⟩) | (go_at_call 14; refine HLk.out.awake11.mono ?_; rintro e w3 ⟨rfl, hb3⟩))
          go_ret
          exact ⟨rfl, hb3⟩
end Go.Proofs.Yteofgmjejocleaa
