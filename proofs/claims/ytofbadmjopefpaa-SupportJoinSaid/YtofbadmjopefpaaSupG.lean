/- SupportJoin. -/
import Derived.Test.YtofbadmjopefpaaSupF
namespace Go.Proofs.Ytofbadmjopefpaa
open Go.RowKit Go.Maps
set_option maxHeartbeats 3200000

set_option maxRecDepth 100000 in
/-- Whether a number is in a list. -/
theorem in_any (wa : World) (v : Value) (xs : List Int) (q : Int) (hs : SliceOf wa .i64 v xs) (hn : xs.length ≤ 9223372036854775807) :
    Calls Try.prog 24 #[v, .int .i64 q] wa fun e w' => e = .returned (.bool (decide (q ∈ xs))) ∧ wa = w' := by
  obtain ⟨a, n, cap, rfl, hl, -⟩ := hs.parts
  obtain ⟨dc, hdc⟩ : ∃ dc, decide (q ∈ xs) = dc := ⟨_, rfl⟩
  rw [hdc]
  rw [hl] at hn
  have HS := Lib.hid hs; have HL := Lib.hid hl; have HD := Lib.hid hdc
  clear hs hl hdc
  go_enter Try.func24, Try.ntmps24
  go_wp2
  go_loopw [5] (fun i wx => ∃ k : Nat, k ≤ n ∧ i = .int .i64 k ∧ wa = wx ∧ q ∉ xs.take k) (fun i _ => n - (intOf i).toNat)
  case atStart => exact ⟨0, by omega, rfl, rfl, by simp⟩
  case round =>
    obtain ⟨k, hk, rfl, rfl, hno⟩ := hrel
    have HNO := Lib.hid hno
    clear hno
    by_cases hlt : k < n
    · have hlt' : (k : Int) < (n : Int) := by omega
      obtain ⟨b, off, x, rfl, hc, hx⟩ := HS.out.parts' hlt
      have HX := Lib.hid hx
      clear hx
      by_cases hq : x = q
      · have hd : true = dc := by rw [← HD.out, eq_comm, decide_eq_true_eq, ← hq]; exact List.mem_of_getElem? HX.out
        subst hd
        have hq' : (x == q) = true := by rw [hq]; simp
        go_wp2
        go_ret
        exact ⟨rfl, rfl⟩
      · have hq' : (x == q) = false := by simpa using hq
        have HQ := Lib.hid hq
        clear hq
        go_wp2
        go_roundw
        case rel =>
          refine ⟨k + 1, by omega, by go_num, trivial, ?_⟩
          rw [List.take_add_one, HX.out, List.mem_append]
          rintro (h | h)
          · exact HNO.out h
          · simp at h; exact HQ.out h.symm
        case measure => simp [intOf]; omega
    · obtain rfl : k = n := by omega
      have hlt' : ¬ (k : Int) < (k : Int) := by omega
      have hd : false = dc := by
        rw [← HD.out, eq_comm, decide_eq_false_iff_not]
        have := HNO.out
        rwa [List.take_of_length_le (by rw [HL.out]; exact Nat.le_refl _)] at this
      subst hd
      go_wp2
      go_ret
      exact ⟨rfl, rfl⟩
theorem join_mem {L : List PNode} (hw : WFL L) (xs ys : List Int) (v : Int) : v ∈ varsO L (occS L (xs ++ ys)) ↔ v ∈ varsO L (occS L xs) ∨ v ∈ varsO L (occS L ys) := by
  rw [mem_varsO, mem_varsO, mem_varsO]
  constructor
  · rintro ⟨j, n, h, hr⟩
    rw [occS_append hw, Bool.or_eq_true] at h
    rcases h with h | h
    · exact .inl ⟨j, n, h, hr⟩
    · exact .inr ⟨j, n, h, hr⟩
  · rintro (⟨j, n, h, hr⟩ | ⟨j, n, h, hr⟩)
    · exact ⟨j, n, by rw [occS_append hw, h]; simp, hr⟩
    · exact ⟨j, n, by rw [occS_append hw, h]; simp, hr⟩
theorem join_size {L : List PNode} (hw : WFL L) (xs ys : List Int) : cntS L (occS L xs) ≤ cntS L (occS L (xs ++ ys)) ∧ cntS L (occS L ys) ≤ cntS L (occS L (xs ++ ys)) ∧ cntS L (occS L (xs ++ ys)) ≤ cntS L (occS L xs) + cntS L (occS L ys) :=
  ⟨cntS_mono fun i h => by rw [occS_append hw, h]; simp, cntS_mono fun i h => by rw [occS_append hw, h]; simp, cntS_or fun i h => by rw [occS_append hw, Bool.or_eq_true] at h; exact h⟩
theorem inL_append {L : List PNode} {xs ys : List Int} (h1 : InL L xs) (h2 : InL L ys) : InL L (xs ++ ys) := fun t ht => by
  rcases List.mem_append.1 ht with h | h
  · exact h1 t h
  · exact h2 t h
set_option maxRecDepth 100000 in
theorem supportJoin_walk {w : World} (Wi : Int) (v v2 v3 : Value) (qs : List PAsk) (hv : AsksOf w v qs) (hq : qs.length ≤ 9223372036854775807) (rs bs : List Int) (hv2 : SliceOf w .i64 v2 rs) (hn2 : rs.length ≤ 9223372036854775807) (hv3 : SliceOf w .i64 v3 bs) (hn3 : bs.length ≤ 9223372036854775807) :
    Calls Try.prog 6 #[.int .i64 Wi, v, v2, v3] w fun e w' => e = .returned (.bool true) ∧ Below w.heap.size w w' := by
  obtain ⟨a, cap, rfl⟩ := hv.parts
  obtain ⟨n, hn⟩ : ∃ n, qs.length = n := ⟨_, rfl⟩
  rw [hn] at hv hq ⊢
  have hfill := fill_some Wi a n cap qs hv hq n (Nat.le_refl _)
  obtain ⟨W, hW⟩ : ∃ W, (Wi % 64).toNat + 1 = W := ⟨_, rfl⟩
  rw [hW] at hfill
  have HF := Lib.hid hfill; have HA := Lib.hid (And.intro hv2 hn2); have HB := Lib.hid (And.intro hv3 hn3)
  clear hv hfill hn hW hv2 hv3 hn2 hn3
  go_enter Try.func6, Try.ntmps6
  go_wp2_with fail
  go_at_call 21
  refine HF.out.mono ?_
  rintro e w1 ⟨gb, F, I, a', m, c, L, hL, -, hG, -, rfl, hlab⟩
  have HG := Lib.hid hG; have HL0 := Lib.hid hlab
  have hwf := hlab.gr.wf
  have HWF := Lib.hid hwf
  have hi1 := someL_in L rs; have hi2 := someL_in L bs
  have hl1 := someL_len L rs; have hl2 := someL_len L bs
  have hs1 := hlab.some14 v2 rs HA.out.1 HA.out.2
  obtain ⟨xs, hxs⟩ : ∃ xs, someL L rs = xs := ⟨_, rfl⟩
  obtain ⟨ys, hys⟩ : ∃ ys, someL L bs = ys := ⟨_, rfl⟩
  rw [hxs] at hi1 hl1 hs1
  rw [hys] at hi2 hl2
  have HI1 := Lib.hid hi1; have HI2 := Lib.hid hi2; have HS1 := Lib.hid hs1; have HYS := Lib.hid hys
  clear hG hlab HF hwf hi1 hi2 hs1 hxs hys HL0
  go_wp2_with fail
  go_at_call 22
  refine HS1.out.mono ?_
  rintro e w2 ⟨a2, c2, rfl, hl⟩
  have hs2 := hl.swap.some14 v3 bs HB.out.1 HB.out.2
  rw [HYS.out] at hs2
  have HS2 := Lib.hid hs2
  clear hl hs2 HS1
  go_wp2_with fail
  go_at_call 22
  refine HS2.out.mono ?_
  rintro e w3 ⟨a3, c3, rfl, hl⟩
  have HL3 := Lib.hid hl.swap
  clear hl HS2
  have hx9 : xs.length ≤ 1000000000 := by omega
  have hxy : xs.length + ys.length ≤ 1000000000 := by omega
  have hsl := OwnInts.slice HL3.out.third
  go_wp2_with (first
    | (at_builtin; refine wpList_append_copy 26 3 .i64 8 _ _ _ xs hsl _ _ rfl rfl Try.underlying26 Try.infoI64 (by decide) rfl rfl hx9 (Nat.le_refl _) ?_; intro v4 w4 hown4 hb4; obtain ⟨a4, m4, c4, rfl⟩ := hown4.val; have hl5 := HL3.out.new_ints hb4 hown4; obtain rfl : m4 = xs.length := hl5.ints_cap.2; have HL5 := Lib.hid hl5; have HS5 := Lib.hid (OwnInts.slice hl5.third); clear hl5 hown4 hb4 hsl)
    | (at_builtin; refine wpList_append_lab (.tmp 38) (.tmp 39) HL5.out HS5.out rfl rfl rfl rfl hxy ?_; intro a5 c5 w5 hl6; clear HL5 HS5; rw [List.length_append] at hl6; have HL6 := Lib.hid hl6.swap; clear hl6)
    | fail)
  clear HL3
  have hjm := join_mem HWF.out xs ys
  obtain ⟨hk1, hk2, hk3⟩ := join_size HWF.out xs ys
  have hlx := varsO_len (L := L) (S := occS L xs)
  have hly := varsO_len (L := L) (S := occS L ys)
  have hlz := varsO_len (L := L) (S := occS L (xs ++ ys))
  have hk4 := cntS_le (L := L) (S := occS L xs)
  have hk5 := cntS_le (L := L) (S := occS L ys)
  obtain ⟨X, hX⟩ : ∃ X, varsO L (occS L xs) = X := ⟨_, rfl⟩
  obtain ⟨Y, hY⟩ : ∃ Y, varsO L (occS L ys) = Y := ⟨_, rfl⟩
  obtain ⟨Z, hZ⟩ : ∃ Z, varsO L (occS L (xs ++ ys)) = Z := ⟨_, rfl⟩
  obtain ⟨nx, hnx⟩ : ∃ nx, cntS L (occS L xs) = nx := ⟨_, rfl⟩
  obtain ⟨ny, hny⟩ : ∃ ny, cntS L (occS L ys) = ny := ⟨_, rfl⟩
  obtain ⟨nz, hnz⟩ : ∃ nz, cntS L (occS L (xs ++ ys)) = nz := ⟨_, rfl⟩
  rw [hX] at hlx; rw [hY] at hly; rw [hZ] at hlz
  rw [hnx] at hk1 hk3 hk4; rw [hny] at hk2 hk3 hk5; rw [hnz] at hk1 hk2 hk3
  simp only [hX, hY, hZ] at hjm
  have HX := Lib.hid hX; have HY := Lib.hid hY; have HZ := Lib.hid hZ; have HNX := Lib.hid hnx; have HNY := Lib.hid hny; have HNZ := Lib.hid hnz; have HJM := Lib.hid hjm
  clear hX hY hZ hnx hny hnz hjm
  refine (HL6.out.vars_ok HG.out _ xs (OwnInts.slice HL6.out.fourth) (by omega) HI1.out HX.out).mono ?_
  rintro e w6 ⟨a6, c6, rfl, hl7⟩
  have HL7 := Lib.hid hl7.swap
  clear hl7 HL6
  go_wp2_with fail
  go_at_call 13
  refine (HL7.out.vars_ok HG.out _ ys (OwnInts.slice HL7.out.fourth) (by omega) HI2.out HY.out).mono ?_
  rintro e w7 ⟨a7, c7, rfl, hl8⟩
  have HL8 := Lib.hid hl8.swap
  clear hl8 HL7
  go_wp2_with fail
  go_at_call 13
  have hc5 : SliceOf w7 .i64 (.slice a5 (xs.length + ys.length) c5) (xs ++ ys) := OwnInts.slice HL8.out.fourth
  refine (HL8.out.vars_ok HG.out _ (xs ++ ys) hc5 (by rw [List.length_append]; omega) (inL_append HI1.out HI2.out) HZ.out).mono ?_
  rintro e w8 ⟨a8, c8, rfl, hl9⟩
  have HL9 := Lib.hid hl9.swap
  clear hl9 HL8 hc5
  go_wp2
  go_loopw [19] (fun i wx => ∃ k : Nat, k ≤ 6 ∧ i = .int .i64 k ∧ Lab w wx [Thing.graph F I gb W 1048576 L, Thing.ints (.slice a8 Z.length c8) Z, Thing.ints (.slice a7 Y.length c7) Y, Thing.ints (.slice a6 X.length c6) X, Thing.ints (.slice a5 (xs.length + ys.length) c5) (xs ++ ys), Thing.ints (.slice a3 ys.length c3) ys, Thing.ints (.slice a2 xs.length c2) xs]) (fun i _ => 6 - (intOf i).toNat)
  case atStart => exact ⟨0, by omega, rfl, HL9.out⟩
  case round =>
    obtain ⟨k, hk, rfl, hl⟩ := hrel
    clear HL9
    by_cases hlt : k < 6
    · have hlt' : (k : Int) < 6 := by omega
      have hz := in_any _ (.slice a8 Z.length c8) Z (k : Int) (OwnInts.slice hl.second) (by omega)
      have hx := in_any _ (.slice a6 X.length c6) X (k : Int) (OwnInts.slice hl.fourth) (by omega)
      have hy := in_any _ (.slice a7 Y.length c7) Y (k : Int) (OwnInts.slice hl.third) (by omega)
      have hm := HJM.out (k : Int)
      have HL := Lib.hid hl
      by_cases hxm : (k : Int) ∈ X
      · have hzm : (k : Int) ∈ Z := hm.2 (.inl hxm)
        rw [decide_eq_true hzm] at hz
        rw [decide_eq_true hxm] at hx
        have HZ1 := Lib.hid hz; have HX1 := Lib.hid hx
        clear hl hz hx hy hm hxm hzm
        go_wp2_with fail
        go_at_call 24
        refine HZ1.out.mono ?_
        rintro e w9 ⟨rfl, rfl⟩
        go_wp2_with fail
        go_at_call 24
        refine HX1.out.mono ?_
        rintro e w9 ⟨rfl, rfl⟩
        go_wp2
        go_roundw
        case rel => exact ⟨k + 1, by omega, by go_num, HL.out⟩
        case measure => simp [intOf]; omega
      · by_cases hym : (k : Int) ∈ Y
        · have hzm : (k : Int) ∈ Z := hm.2 (.inr hym)
          rw [decide_eq_true hzm] at hz
          rw [decide_eq_false hxm] at hx
          rw [decide_eq_true hym] at hy
          have HZ1 := Lib.hid hz; have HX1 := Lib.hid hx; have HY1 := Lib.hid hy
          clear hl hz hx hy hm hxm hzm hym
          go_wp2_with fail
          go_at_call 24
          refine HZ1.out.mono ?_
          rintro e w9 ⟨rfl, rfl⟩
          go_wp2_with fail
          go_at_call 24
          refine HX1.out.mono ?_
          rintro e w9 ⟨rfl, rfl⟩
          go_wp2_with fail
          go_at_call 24
          refine HY1.out.mono ?_
          rintro e w9 ⟨rfl, rfl⟩
          go_wp2
          go_roundw
          case rel => exact ⟨k + 1, by omega, by go_num, HL.out⟩
          case measure => simp [intOf]; omega
        · have hzm : (k : Int) ∉ Z := fun h => (hm.1 h).elim hxm hym
          rw [decide_eq_false hzm] at hz
          rw [decide_eq_false hxm] at hx
          rw [decide_eq_false hym] at hy
          have HZ1 := Lib.hid hz; have HX1 := Lib.hid hx; have HY1 := Lib.hid hy
          clear hl hz hx hy hm hxm hzm hym
          go_wp2_with fail
          go_at_call 24
          refine HZ1.out.mono ?_
          rintro e w9 ⟨rfl, rfl⟩
          go_wp2_with fail
          go_at_call 24
          refine HX1.out.mono ?_
          rintro e w9 ⟨rfl, rfl⟩
          go_wp2_with fail
          go_at_call 24
          refine HY1.out.mono ?_
          rintro e w9 ⟨rfl, rfl⟩
          go_wp2
          go_roundw
          case rel => exact ⟨k + 1, by omega, by go_num, HL.out⟩
          case measure => simp [intOf]; omega
    · obtain rfl : k = 6 := by omega
      have hd : Lab w wr [Thing.graph F I gb W 1048576 L, Thing.ints (.slice a5 (xs.length + ys.length) c5) (xs ++ ys), Thing.ints (.slice a3 ys.length c3) ys, Thing.ints (.slice a2 xs.length c2) xs] := hl.subl (.cons_cons _ (.cons _ (.cons _ (.cons _ (List.Sublist.refl _)))))
      have HL := Lib.hid hd
      clear hl hd
      go_wp2_with fail
      go_at_call 14
      refine (HL.out.size_ok _ xs (OwnInts.slice HL.out.fourth) (by omega) HI1.out HNX.out).mono ?_
      rintro e w10 ⟨rfl, hl10⟩
      have HL10 := Lib.hid hl10
      clear hl10 HL
      go_wp2_with fail
      go_at_call 14
      refine (HL10.out.size_ok _ ys (OwnInts.slice HL10.out.third) (by omega) HI2.out HNY.out).mono ?_
      rintro e w11 ⟨rfl, hl11⟩
      have HL11 := Lib.hid hl11
      clear hl11 HL10
      go_wp2_with fail
      go_at_call 14
      refine (HL11.out.size_ok _ (xs ++ ys) (OwnInts.slice HL11.out.second) (by rw [List.length_append]; omega) (inL_append HI1.out HI2.out) HNZ.out).mono ?_
      rintro e w12 ⟨rfl, hl12⟩
      have HAW := Lib.hid hl12.awake14
      clear hl12 HL11
      have hs0 : IntKind.i64.wrap ((nx : Int) + (ny : Int)) = (nx : Int) + (ny : Int) := by simp [IntKind.wrap, IntKind.bits, IntKind.signed]; omega
      have hs1 : (nx : Int) ≤ (nz : Int) := by omega
      have hs2 : (ny : Int) ≤ (nz : Int) := by omega
      have hs3 : (nz : Int) ≤ (nx : Int) + (ny : Int) := by omega
      go_wp2_with fail
      go_at_call 15
      refine HAW.out.mono ?_
      rintro e w13 ⟨rfl, hb⟩
      go_wp2
      go_ret
      exact ⟨rfl, hb⟩
end Go.Proofs.Ytofbadmjopefpaa
