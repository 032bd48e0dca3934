/- TwinVars. -/
import Derived.Test.YtmfendfpjpbhdaaDoorEqIn
namespace Go.Proofs.YtmfendfpjpbhdaaDoor
open Go.RowKit Go.Maps
set_option maxHeartbeats 3200000

theorem NumsOf.none (w : World) (k : IntKind) : NumsOf w k (.slice none 0 0) [] := ⟨_, _, _, rfl, rfl, fun i hi => by omega⟩
theorem NumsOf.later {w w' : World} {k : IntKind} {v : Value} {xss : List (List Int)} (h : NumsOf w k v xss) (hw : Below w.heap.size w w') : NumsOf w' k v xss := by
  obtain ⟨a, n, cap, rfl, hl, hc⟩ := h
  refine ⟨a, n, cap, rfl, hl, fun i hi => ?_⟩
  obtain ⟨b, off, xs, va, rfl, hx, hc1, hs⟩ := hc i hi
  exact ⟨b, off, xs, va, rfl, hx, cell_later hw hc1, hs.later hw⟩
theorem full_rows {f : Nat → Nat → Int} {n c : Nat} {xs : List Int} (h : xs ∈ full f n c) : xs.length = n := by
  obtain ⟨i, -, rfl⟩ := List.mem_map.1 h
  simp
/-- What Split gives for the two valuations. -/
def splX (f : Nat → Nat → Int) (e N : Nat) (n : Int) : List (List Int) := if e = 0 then full f n.toNat N else []
theorem splX_len (f : Nat → Nat → Int) (e N : Nat) (n : Int) (hN : N ≤ 9223372036854775807) : (splX f e N n).length ≤ 9223372036854775807 := by
  unfold splX
  split
  · rw [full_len]; exact hN
  · simp
theorem splE_in {nl : Nat} {level : Int} {ls : List Int} {n : Int} (h : splE nl level ls n = 0) : mayE nl level ls = 0 ∧ 0 ≤ n ∧ n ≤ 65536 := by
  unfold splE at h
  by_cases hm : mayE nl level ls = 0
  · rw [if_neg (by omega)] at h
    by_cases hn : n < 0 ∨ 65536 < n
    · rw [if_pos hn] at h; exact absurd h (by decide)
    · exact ⟨hm, by omega, by omega⟩
  · rw [if_pos hm] at h; exact absurd h (by decide)
theorem splE_cases (nl : Nat) (level : Int) (ls : List Int) (n : Int) : splE nl level ls n = 0 ∨ splE nl level ls n = 3 := by
  unfold splE
  split
  · exact .inr rfl
  · split
    · exact .inr rfl
    · exact .inl rfl
theorem splX_rows {f : Nat → Nat → Int} {nl N : Nat} {level : Int} {ls : List Int} {n : Int} {xs : List Int} (h : xs ∈ splX f (splE nl level ls n) N n) : xs.length ≤ 9223372036854775807 := by
  unfold splX at h
  split at h
  · rename_i he
    rw [full_rows h]
    have := (splE_in he).2
    omega
  · cases h
section
variable {w0 wq : World} {ts : List Thing}
theorem Lab.split_any (h : Lab w0 wq ts) {lb nl : Nat} {R : Rel} (hlat : LatIs wq lb nl R) {level n : Int} {chv vv : Value} {ls vals : List Int} (hch : SliceOf wq .i64 chv ls) (hv : SliceOf wq .u64 vv vals) :
    Calls Tryd.prog 12 #[.pointer (some ⟨lb, 0, none⟩), .int .i64 level, chv, .int .i64 n, vv] wq fun e w' => ∃ va vb vsa vsb, e = .returned (.tuple #[va, vb, .int .i64 (splE nl level ls n)]) ∧
      vsa.length = (splX (valA ls.length vals) (splE nl level ls n) ls.length n).length ∧ vsb.length = (splX (valB ls.length nl R level ls vals) (splE nl level ls n) ls.length n).length ∧
      Lab w0 w' (Thing.lists .u64 44 36 va vsa (splX (valA ls.length vals) (splE nl level ls n) ls.length n) :: Thing.lists .u64 44 36 vb vsb (splX (valB ls.length nl R level ls vals) (splE nl level ls n) ls.length n) :: ts) := by
  rcases splE_cases nl level ls n with he | he
  · obtain ⟨hm, hn1, hn2⟩ := splE_in he
    obtain ⟨m, rfl⟩ := Int.eq_ofNat_of_zero_le hn1
    refine (h.split_ok hlat hch hv hm (n := m) (by omega) rfl).mono ?_
    rintro e w' ⟨va, vb, vsa, vsb, rfl, h1, h2, hl⟩
    rw [part_full, part_full] at hl
    rw [he]
    simp only [splX, if_true, Int.toNat_natCast, full_len]
    exact ⟨va, vb, vsa, vsb, rfl, h1, h2, hl⟩
  · refine (h.split_bad hlat hch hv (by rw [he]; decide)).mono ?_
    rintro e w' ⟨rfl, hl⟩
    rw [he]
    exact ⟨_, _, [], [], rfl, rfl, rfl, hl.lists_none.lists_none⟩
theorem Lab.rsplit_any (h : Lab w0 wq ts) {xb nl : Nat} {R : Rel} (hmat : MatIs w0 xb nl R) {level n : Int} {chv vv : Value} {ls vals : List Int} (hch : SliceOf w0 .i64 chv ls) (hv : SliceOf w0 .u64 vv vals) :
    Calls Tryd.prog 13 #[.pointer (some ⟨xb, 0, none⟩), .int .i64 level, chv, .int .i64 n, vv] wq fun e w' => ∃ va vb vsa vsb, e = .returned (.tuple #[va, vb, .int .i64 (splE nl level ls n)]) ∧
      vsa.length = (splX (valA ls.length vals) (splE nl level ls n) ls.length n).length ∧ vsb.length = (splX (valB ls.length nl R level ls vals) (splE nl level ls n) ls.length n).length ∧
      Lab w0 w' (Thing.lists .u64 44 36 vb vsb (splX (valB ls.length nl R level ls vals) (splE nl level ls n) ls.length n) :: Thing.lists .u64 44 36 va vsa (splX (valA ls.length vals) (splE nl level ls n) ls.length n) :: ts) := by
  rcases splE_cases nl level ls n with he | he
  · obtain ⟨hm, hn1, hn2⟩ := splE_in he
    obtain ⟨m, rfl⟩ := Int.eq_ofNat_of_zero_le hn1
    refine (h.rsplit hmat hch hv hm (n := m) (by omega) rfl).mono ?_
    rintro e w' ⟨va, vb, vsa, vsb, rfl, h1, h2, hl⟩
    rw [he]
    simp only [splX, if_true, Int.toNat_natCast, full_len]
    exact ⟨va, vb, vsa, vsb, rfl, h1, h2, hl⟩
  · refine (rsplit_bad (hmat.later h.below) (hch.later h.below) (hv.later h.below) (by rw [he]; decide)).mono ?_
    rintro e w' ⟨rfl, hb⟩
    rw [he]
    exact ⟨_, _, [], [], rfl, rfl, rfl, (h.later hb).lists_none.lists_none⟩
end
section
variable {w0 wr : World} {ts : List Thing}
theorem Lab.lists_shape {k : IntKind} {E Es : Nat} {v : Value} {vs : List Value} {xss : List (List Int)} (h : Lab w0 wr (Thing.lists k E Es v vs xss :: ts)) : ∃ a n c, v = .slice a n c := by
  obtain ⟨a, c, e, -⟩ := row_shape h.lists_row
  exact ⟨a, _, c, e⟩
set_option maxRecDepth 100000 in
theorem twinVars_walk (nI lv : Int) (v1 v3 : Value) (x inp : Int) (v6 : Value) (w : World) (hT : TabOk w) (os : List (Int × Int)) (hv : PairsOf w v1 os) (hn : os.length ≤ 9223372036854775807)
    (ls : List Int) (hs : SliceOf w .i64 v3 ls) (hlen : ls.length ≤ 9223372036854775807) (vals : List Int) (hvs : SliceOf w .u64 v6 vals) :
    Calls Tryd.prog 4 #[.int .i64 nI, v1, .int .i64 lv, v3, .int .i64 x, .int .i64 inp, v6] w fun e w' => e = .returned (.bool true) ∧ Below w.heap.size w w' := by
  have H2 := Lib.hid (lattices_any (Below.refl _ w) nI v1 os hv hn hT)
  obtain ⟨a1, n1, c1, rfl, hol, -⟩ := hv
  have HS := Lib.hid (And.intro hs hvs)
  obtain ⟨a3, n3, c3, rfl, hol3, -⟩ := hs.parts
  obtain ⟨a6, n6, c6, rfl, hol6, -⟩ := hvs.parts
  have H1 := Lib.hid (few_any w a1 a3 n1 c1 n3 c3)
  have HT := Lib.hid hT
  have HLS := Lib.hid (show ls.length ≤ 9223372036854775807 from hlen)
  clear hs hn hT hvs hlen
  by_cases hf : n1 ≤ 30 ∧ n3 ≤ 40
  · rw [decide_eq_true hf] at H1
    clear hf
    by_cases hi : 30 < inp ∧ inp ≤ 65536
    · obtain ⟨h1, h2⟩ := hi
      clear H2 HS HT hol hol3 hol6
      go_enter Tryd.func4, Tryd.ntmps4
      go_wp2_with (go_at_call 6; refine H1.out.mono ?_; rintro e w1 ⟨rfl, rfl⟩)
      go_ret
      exact ⟨rfl, Below.refl _ _⟩
    · by_cases h6 : 200 < n6
      · have h6' : (200 : Int) < (n6 : Int) := by omega
        have hi' : (decide ((30 : Int) < inp) && decide (inp ≤ 65536)) = false := by
          rw [Bool.and_eq_false_iff, decide_eq_false_iff_not, decide_eq_false_iff_not]
          by_cases h : 30 < inp
          · exact .inr fun h2 => hi ⟨h, h2⟩
          · exact .inl h
        clear H2 HS HT hol hol3 hol6
        go_enter Tryd.func4, Tryd.ntmps4
        by_cases h : 30 < inp
        · have h3 : ¬ inp ≤ 65536 := fun h2 => hi ⟨h, h2⟩
          clear hi hi' h6
          go_wp2_with (go_at_call 6; refine H1.out.mono ?_; rintro e w1 ⟨rfl, rfl⟩)
          go_ret
          exact ⟨rfl, Below.refl _ _⟩
        · clear hi hi' h6
          go_wp2_with (go_at_call 6; refine H1.out.mono ?_; rintro e w1 ⟨rfl, rfl⟩)
          go_ret
          exact ⟨rfl, Below.refl _ _⟩
      · have h6' : ¬ (200 : Int) < (n6 : Int) := by omega
        clear h6
        by_cases he : latE nI os = 0
        · replace H2 := Lib.hid (H2.out.mono fun e w' h => h.1 he)
          clear he
          have main : (¬ (30 : Int) < inp) ∨ ((30 : Int) < inp ∧ ¬ inp ≤ 65536) := by
            by_cases h : (30 : Int) < inp
            · exact .inr ⟨h, fun h2 => hi ⟨h, h2⟩⟩
            · exact .inl h
          clear hi
          have HOS := Lib.hid hol
          clear hol hol3 hol6
          rcases main with h3 | ⟨h3, h4⟩
          all_goals
            go_enter Tryd.func4, Tryd.ntmps4
            go_wp2_with fail
            go_at_call 6
            refine H1.out.mono ?_
            rintro e w1 ⟨rfl, rfl⟩
            go_wp2_with fail
            go_at_call 8
            refine H2.out.mono ?_
            rintro e w1 ⟨lb, xb, rfl, hl, hm, hb⟩
            obtain ⟨n, hn⟩ : ∃ n, nI.toNat = n := ⟨_, rfl⟩
            rw [hn] at hl hm
            have hs1 := HS.out.1.later hb
            have V1 := Lib.hid (tvar_any hl lv hs1 x)
            have V2 := Lib.hid (rvar35_any hm lv hs1 x)
            obtain ⟨X, hX⟩ : ∃ X, varN n (latR n os) lv ls x = X := ⟨_, rfl⟩
            obtain ⟨E, hE⟩ : ∃ E, varE n lv ls x = E := ⟨_, rfl⟩
            rw [hX, hE] at V1 V2
            have HL := Lib.hid hl; have HM := Lib.hid hm; have HB := Lib.hid hb
            clear hl hm hb hs1 hX hE hn H1 H2
            go_wp2_with fail
            go_at_call 9
            refine V1.out.mono ?_
            rintro e w2 ⟨rfl, rfl⟩
            go_wp2_with fail
            go_at_call 11
            refine V2.out.mono ?_
            rintro e w2 ⟨rfl, hb2⟩
            have HB2 := Lib.hid (HB.out.trans (hb2.mono HB.out.size))
            have HL2 := Lib.hid (HL.out.later hb2); have HM2 := Lib.hid (HM.out.later hb2)
            clear hb2 V1 V2 HL HM HB
            have HS2 := Lib.hid (And.intro (HS.out.1.later HB2.out) (HS.out.2.later HB2.out))
            have S1 := Lib.hid ((Lab.nil (Below.refl _ w2)).split_any HL2.out (level := lv) (n := inp) HS2.out.1 HS2.out.2)
            go_wp2_with fail
            go_at_call 12
            refine S1.out.mono ?_
            rintro e w3 ⟨va, vb, vsa, vsb, rfl, h1, h2, hL3⟩
            obtain ⟨aa, na, ca, rfl⟩ := hL3.lists_shape
            obtain ⟨ab, nb, cb, rfl⟩ := hL3.swap.lists_shape
            have S2 := Lib.hid (hL3.rsplit_any HM2.out (level := lv) (n := inp) HS2.out.1 HS2.out.2)
            have HN1 := Lib.hid (And.intro h1 h2)
            clear h1 h2 hL3 S1
            go_wp2_with fail
            go_at_call 13
            refine S2.out.mono ?_
            rintro e w4 ⟨vc, vd, vsc, vsd, rfl, h1, h2, hL4⟩
            obtain ⟨ad, nd, cd, rfl⟩ := hL4.lists_shape
            obtain ⟨ac, nc, cc, rfl⟩ := hL4.swap.lists_shape
            have R1 := hL4.rot3.lists_read HN1.out.1.symm
            have R2 := hL4.swap.lists_read h1.symm
            have R3 := hL4.rot4.lists_read HN1.out.2.symm
            have R4 := hL4.lists_read h2.symm
            have hN : ls.length ≤ 9223372036854775807 := HLS.out
            have E1 := Lib.hid (inputsEq_any _ _ _ _ R1 R2 (splX_len _ _ _ _ hN) (splX_len _ _ _ _ hN) (fun xs h => splX_rows h) (fun xs h => splX_rows h))
            rw [decide_eq_true rfl] at E1
            have HR3 := Lib.hid (And.intro R3 R4)
            have HB4 := Lib.hid (HB2.out.trans (hL4.below.mono HB2.out.size))
            obtain ⟨F, hF⟩ : ∃ F, splE n lv ls inp = F := ⟨_, rfl⟩
            clear h1 h2 hL4 S2 R1 R2 R3 R4 HN1 hN
            go_wp2_with fail
            go_at_call 14
            refine E1.out.mono ?_
            rintro e w5 ⟨rfl, hb5⟩
            have E2 := Lib.hid (inputsEq_any _ _ _ _ (HR3.out.1.later hb5) (HR3.out.2.later hb5) (splX_len _ _ _ _ HLS.out) (splX_len _ _ _ _ HLS.out) (fun xs h => splX_rows h) (fun xs h => splX_rows h))
            rw [decide_eq_true rfl] at E2
            have HB5 := Lib.hid (HB4.out.trans (hb5.mono HB4.out.size))
            clear hb5 E1 HR3
            go_wp2_with fail
            go_at_call 14
            refine E2.out.mono ?_
            rintro e w6 ⟨rfl, hb6⟩
            have HB6 := Lib.hid (HB5.out.trans (hb6.mono HB5.out.size))
            have HA := Lib.hid (awake35_any w6 (HT.out.later HB6.out))
            clear hb6 E2
            go_wp2_with fail
            go_at_call 7
            refine HA.out.mono ?_
            rintro e w7 ⟨rfl, hb7⟩
            have HB7 := Lib.hid (HB6.out.trans (hb7.mono HB6.out.size))
            clear hb7
            go_wp2
            go_ret
            exact ⟨rfl, HB7.out⟩
        · replace H2 := Lib.hid (H2.out.mono fun e w' h => h.2 he)
          clear he HS
          have main : (¬ (30 : Int) < inp) ∨ ((30 : Int) < inp ∧ ¬ inp ≤ 65536) := by
            by_cases h : (30 : Int) < inp
            · exact .inr ⟨h, fun h2 => hi ⟨h, h2⟩⟩
            · exact .inl h
          clear hi
          have HOS := Lib.hid hol
          clear hol hol3 hol6
          rcases main with h3 | ⟨h3, h4⟩
          all_goals
            go_enter Tryd.func4, Tryd.ntmps4
            go_wp2_with fail
            go_at_call 6
            refine H1.out.mono ?_
            rintro e w1 ⟨rfl, rfl⟩
            go_wp2_with fail
            go_at_call 8
            refine H2.out.mono ?_
            rintro e w1 ⟨rfl, hb⟩
            have HB := Lib.hid hb
            have HA := Lib.hid (awake35_any w1 (HT.out.later hb))
            clear hb
            go_wp2_with fail
            go_at_call 7
            refine HA.out.mono ?_
            rintro e w2 ⟨rfl, hb⟩
            have HB2 := Lib.hid (HB.out.trans (hb.mono HB.out.size))
            clear hb
            go_wp2
            go_ret
            exact ⟨rfl, HB2.out⟩
  · rw [decide_eq_false hf] at H1
    clear hf H2 HT HS hol hol3 hol6
    go_enter Tryd.func4, Tryd.ntmps4
    go_wp2_with (go_at_call 6; refine H1.out.mono ?_; rintro e w1 ⟨rfl, rfl⟩)
    go_ret
    exact ⟨rfl, Below.refl _ _⟩
end
end Go.Proofs.YtmfendfpjpbhdaaDoor
