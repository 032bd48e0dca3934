/- EvalDeep of law 11. -/
import Derived.Test.YteofgmjejocleaaEvalI
namespace Go.Proofs.Yteofgmjejocleaa
open Go.RowKit Go.Maps
set_option maxHeartbeats 1600000

/-- A node that is asked for where there is room, and its value. -/
theorem ask_val {W : Nat} {L : List PNode} (hwf : WFL L) {room : Nat} (hr : L.length < room) {n : PNode} (hok : NodeOk n) (ha : ∀ a ∈ n.2.2, (0 : Int) ≤ a ∧ a < (L.length : Int)) :
    ∃ L' t, askP room L n = (L', t, 0) ∧ L <+: L' ∧ L'.length ≤ L.length + 1 ∧ L'[t]? = some n ∧ WFL L' ∧ ∀ vals, val W vals L' t = valN W vals (valsL W vals L) n := by
  have hw := askP_wf hwf room hok ha
  have hl := askP_len room L n
  have hp := isPrefix_ask (L := L) room n
  have hg := askP_grown hr n
  obtain ⟨R, hR⟩ : ∃ R, askP room L n = R := ⟨_, rfl⟩
  rw [hR] at hw hl hp hg ⊢
  obtain ⟨L', t, e⟩ := R
  simp only at hw hl hp hg ⊢
  obtain ⟨he, hg⟩ := hg
  simp only at he hg
  subst he
  have ht : L'[t]? = some n := by
    rcases hg with ⟨rfl, h⟩ | ⟨_, rfl, rfl⟩
    · exact h
    · simp
  refine ⟨L', t, rfl, hp, hl.2, ht, hw, fun vals => ?_⟩
  rw [val_at hw ht]
  exact valN_congr fun a hma => by
    have := ha a hma
    exact prefix_getD (valsL_prefix hp) (by rw [valsL_len]; omega) 0
theorem app_val {W : Nat} {L : List PNode} (hwf : WFL L) {room : Nat} (hr : L.length < room) {o : Nat} (h1 : 2 ≤ o) (h2 : o ≤ 21) {xs : List Int} (hl : aryN o = xs.length) (ha : ∀ a ∈ xs, (0 : Int) ≤ a ∧ a < (L.length : Int)) :
    ∃ L' t, appR room L o xs = (L', t, 0) ∧ L <+: L' ∧ L'.length ≤ L.length + 1 ∧ L'[t]? = some (o, 0, xs) ∧ WFL L' ∧ ∀ vals, val W vals L' t = wI o W (xs.map fun a => val W vals L a.toNat) := by
  have he : appR room L o xs = askP room L (o, 0, xs) := by unfold appR; rw [if_pos ⟨h2, aryN_pos h1, hl⟩, if_pos ha]
  obtain ⟨L', t, e, hp, hll, ht, hw, hv⟩ := ask_val (W := W) hwf hr (n := (o, 0, xs)) ⟨h2, by show 0 ≤ _; omega, hl.symm⟩ ha
  refine ⟨L', t, he.trans e, hp, hll, ht, hw, fun vals => (hv vals).trans (valN_app (n := (o, 0, xs)) (by show o ≠ 0; omega) (by show o ≠ 1; omega))⟩
theorem wI_two {W o : Nat} (h1 : 1 ≤ W) (h2 : W ≤ 64) (ho : 4 ≤ o ∧ o ≤ 20) (a b : Nat) (ha : a < 2 ^ W) (hb : b < 2 ^ W) : wI o W [(a : Int), (b : Int)] = ((wop W o a b 0 : Nat) : Int) := by
  unfold wI
  rw [if_pos (wE_zero h1 h2 (by omega) (by omega) (by unfold aryN; rw [if_neg (by omega), if_neg (by omega), if_neg (by omega)]; rfl))]
  simp only [Int.toNat_natCast, wA, List.getD_cons_zero, List.getD_cons_succ, List.getD_nil, Int.toNat_zero, Nat.zero_mod]
  rw [Nat.mod_eq_of_lt ha, Nat.mod_eq_of_lt hb]
set_option maxRecDepth 100000 in
theorem evalDeep_walk {w : World} (Wi Li x : Int) (hx : 0 ≤ x ∧ x ≤ 18446744073709551615) :
    Calls Try.prog 4 #[.int .i64 Wi, .int .i64 Li, .int .u64 x] w fun e w' => e = .returned (.bool true) ∧ Below w.heap.size w w' := by
  obtain ⟨X, rfl⟩ := Int.eq_ofNat_of_zero_le hx.1
  have hX : X ≤ 18446744073709551615 := by omega
  clear hx
  obtain ⟨len, hlen⟩ : ∃ len : Nat, Li % 3001 = (len : Int) := ⟨(Li % 3001).toNat, by have := Int.emod_nonneg Li (show (3001 : Int) ≠ 0 by decide); omega⟩
  have hlen2 : len ≤ 3000 := by have := Int.emod_lt_of_pos Li (show (0 : Int) < 3001 by decide); omega
  have hm1 := fun wx => mod_any Li 3001 (by decide) (by decide) wx
  rw [hlen] at hm1
  obtain ⟨W, hW⟩ : ∃ W, (Wi % 64).toNat + 1 = W := ⟨_, rfl⟩
  have hWi : Wi % 64 + 1 = (W : Int) := by have := Int.emod_nonneg Wi (show (64 : Int) ≠ 0 by decide); omega
  have hW1 : 1 ≤ W := by omega
  have hW2 : W ≤ 64 := by have := Int.emod_lt_of_pos Wi (show (0 : Int) < 64 by decide); omega
  have hm2 := fun wx => mod_any Wi 64 (by decide) (by decide) wx
  have hwm : Wi % 64 = (W : Int) - 1 := by omega
  rw [hwm] at hm2
  have H0 := Lib.hid (Lab.nil (Below.refl w.heap.size w)); have HM1 := Lib.hid hm1; have HM2 := Lib.hid hm2
  have hnew := fun (wx : World) (h : Lab w wx []) => h.new_graph (W : Int) 0 ⟨by omega, by omega, by decide, by decide⟩
  have HNEW := Lib.hid hnew
  clear hlen hW hWi hm1 hm2 hnew hwm
  go_enter Try.func4, Try.ntmps4
  go_wp2_with fail
  go_at_call 15
  refine (HM1.out _).mono ?_
  rintro e w1 ⟨rfl, rfl⟩
  go_wp2_with fail
  go_at_call 15
  refine (HM2.out _).mono ?_
  rintro e w1 ⟨rfl, rfl⟩
  go_wp2_with fail
  go_at_call 16
  refine (HNEW.out _ H0.out).mono ?_
  rintro e w1 ⟨gb, F, rfl, h1⟩
  rw [Int.toNat_natCast] at h1
  replace h1 : Lab w w1 [Thing.graph F [] gb W 1048576 []] := h1
  have H1 := Lib.hid h1; clear h1
  have e1 : varR 1048576 [] 0 = ([(1, 0, [])], 0, 0) := by decide
  have hv0 : val W [(X : Int)] [(1, 0, [])] 0 = ((X % 2 ^ W : Nat) : Int) := by
    show valN W [(X : Int)] [] (1, 0, []) = _
    rw [valN_var rfl (by show 0 < 1; omega)]; rfl
  have E1 := Lib.hid e1; have HV0 := Lib.hid hv0
  clear e1 hv0
  go_wp2_with fail
  go_at_call 17
  refine (var_any H1.out.gr 0).mono ?_
  intro e w2 hp
  obtain ⟨F2, I2, rfl, h2⟩ := H1.out.gpost hp
  rw [E1.out] at h2 ⊢
  have H2 := Lib.hid h2; clear h2 hp
  go_upto_block 0 with fail
  go_cut [9, 10, 11, 12] (fun s p a b wx => ∃ s' p' a' b' : Nat, ∃ F I L, s = .int .i64 s' ∧ p = .int .i64 p' ∧ a = .int .u64 a' ∧ b = .int .u64 b' ∧ a' ≤ 18446744073709551615 ∧ b' ≤ 18446744073709551615 ∧ s' < L.length ∧ p' < L.length ∧ val W [(X : Int)] L s' = ((a' % 2 ^ W : Nat) : Int) ∧ val W [(X : Int)] L p' = ((b' % 2 ^ W : Nat) : Int) ∧ Lab w wx [Thing.graph F I gb W 1048576 L])
  case first =>
    go_wp2
    go_loopw [9, 10, 11, 12, 13] (fun s p a b i wr => ∃ k : Nat, k ≤ len ∧ i = .int .i64 k ∧ ∃ s' p' a' b' : Nat, ∃ F I L, s = .int .i64 s' ∧ p = .int .i64 p' ∧ a = .int .u64 a' ∧ b = .int .u64 b' ∧ a' ≤ 18446744073709551615 ∧ b' ≤ 18446744073709551615 ∧ L.length ≤ 2 * k + 1 ∧ s' < L.length ∧ p' < L.length ∧ val W [(X : Int)] L s' = ((a' % 2 ^ W : Nat) : Int) ∧ val W [(X : Int)] L p' = ((b' % 2 ^ W : Nat) : Int) ∧ Lab w wr [Thing.graph F I gb W 1048576 L]) (fun _ _ _ _ i _ => len - (intOf i).toNat)
    case atStart => exact ⟨0, by omega, rfl, 0, 0, X, X, F2, I2, _, rfl, rfl, rfl, rfl, hX, hX, by simp, by simp, by simp, HV0.out, HV0.out, H2.out⟩
    case round =>
      obtain ⟨k, hk, rfl, s', p', a', b', F, I, L, rfl, rfl, rfl, rfl, ha, hb, hL, hs, hp, hvs, hvp, hl⟩ := hrel
      by_cases hlt : k < len
      · have hq := pow_pos2 W
        obtain ⟨L1, t1, q1, r1, l1, g1, wf1, v1⟩ := app_val (W := W) hl.gr.wf (room := 1048576) (by omega) (o := 4) (by decide) (by decide) (xs := [(s' : Int), (s' : Int)]) rfl (by intro a hma; simp at hma; subst hma; omega)
        have hs1 := v1 [(X : Int)]
        rw [List.map_cons, List.map_cons, List.map_nil, Int.toNat_natCast, hvs, wI_two hW1 hW2 (by decide) _ _ (Nat.mod_lt _ hq) (Nat.mod_lt _ hq)] at hs1
        have hp1 : val W [(X : Int)] L1 p' = ((b' % 2 ^ W : Nat) : Int) := by rw [val_prefix r1 hp, hvp]
        have hpl1 : p' < L1.length := Nat.lt_of_lt_of_le hp r1.length_le
        have ht1 : t1 < L1.length := (List.getElem?_eq_some_iff.1 g1).1
        obtain ⟨L2, t2, q2, r2, l2, g2, wf2, v2⟩ := app_val (W := W) wf1 (room := 1048576) (by omega) (o := 6) (by decide) (by decide) (xs := [(p' : Int), (p' : Int)]) rfl (by intro a hma; simp at hma; subst hma; omega)
        have hp2 := v2 [(X : Int)]
        rw [List.map_cons, List.map_cons, List.map_nil, Int.toNat_natCast, hp1, wI_two hW1 hW2 (by decide) _ _ (Nat.mod_lt _ hq) (Nat.mod_lt _ hq)] at hp2
        have hs2 : val W [(X : Int)] L2 t1 = ((wop W 4 (a' % 2 ^ W) (a' % 2 ^ W) 0 : Nat) : Int) := by rw [val_prefix r2 ht1, hs1]
        have ht12 : t1 < L2.length := Nat.lt_of_lt_of_le ht1 r2.length_le
        have ht2 : t2 < L2.length := (List.getElem?_eq_some_iff.1 g2).1
        have m1 : wop W 4 (a' % 2 ^ W) (a' % 2 ^ W) 0 = ((a' + a') % 18446744073709551616) % 2 ^ W := by
          rw [mod64_mod hW2]
          show (a' % 2 ^ W + a' % 2 ^ W) % 2 ^ W = _
          rw [← Nat.add_mod]
        have m2 : wop W 6 (b' % 2 ^ W) (b' % 2 ^ W) 0 = ((b' * b') % 18446744073709551616) % 2 ^ W := by
          rw [mod64_mod hW2]
          show (b' % 2 ^ W * (b' % 2 ^ W)) % 2 ^ W = _
          rw [← Nat.mul_mod]
        rw [m1] at hs2
        rw [m2] at hp2
        have HS2 := Lib.hid hs2; have HP2 := Lib.hid hp2; have HT := Lib.hid (And.intro ht12 ht2); have HLL := Lib.hid (And.intro l1 l2); have HLL2 := Lib.hid hL
        have Q1 := Lib.hid q1; have Q2 := Lib.hid q2; have HL := Lib.hid hl
        clear hs1 hp1 hs2 hp2 v1 v2 wf1 wf2 g1 g2 r1 r2 q1 q2 hl hvs hvp m1 m2 hpl1 ht1 ht12 ht2 l1 l2 hL hs hp hq
        go_wp2_with fail
        go_at_call 18
        refine (app_any (HL.out.grL _).gr 4 (by decide) [(s' : Int), (s' : Int)] _ (sliceOf_new wr .i64 3 [(s' : Int), (s' : Int)] 2)).mono ?_
        intro e w3 hp3
        obtain ⟨F3, I3, rfl, h3⟩ := (HL.out.grL _).gpost hp3
        rw [Q1.out] at h3 ⊢
        have H3 := Lib.hid h3; clear h3 hp3
        go_wp2_with fail
        go_at_call 18
        refine (app_any (H3.out.grL _).gr 6 (by decide) [(p' : Int), (p' : Int)] _ (sliceOf_new w3 .i64 3 [(p' : Int), (p' : Int)] 2)).mono ?_
        intro e w4 hp4
        obtain ⟨F4, I4, rfl, h4⟩ := (H3.out.grL _).gpost hp4
        rw [Q2.out] at h4 ⊢
        have H4 := Lib.hid h4; clear h4 hp4
        go_wp2
        go_roundw
        case rel =>
          refine ⟨k + 1, by omega, by go_num, t1, t2, (a' + a') % 18446744073709551616, (b' * b') % 18446744073709551616, F4, I4, L2, rfl, rfl, ?_, ?_, Nat.le_of_lt_succ (Nat.mod_lt _ (by decide)), Nat.le_of_lt_succ (Nat.mod_lt _ (by decide)), by have := HLL.out; have := HLL2.out; omega, HT.out.1, HT.out.2, HS2.out, HP2.out, H4.out⟩
          · rw [← wrap_u64_nat]; rfl
          · rw [← wrap_u64_nat, Int.natCast_mul]
        case measure => simp [intOf]; omega
      · obtain rfl : k = len := by omega
        have HX := Lib.hid (And.intro hs (And.intro hp (And.intro hvs (And.intro hvp hl))))
        clear hs hp hvs hvp hl
        go_wp2
        go_meet
        exact ⟨s', p', a', b', F, I, L, rfl, rfl, rfl, rfl, ha, hb, HX.out.1, HX.out.2.1, HX.out.2.2.1, HX.out.2.2.2.1, HX.out.2.2.2.2⟩
  case rest =>
    obtain ⟨s', p', a', b', F, I, L, rfl, rfl, rfl, rfl, ha, hb, hs, hp, hvs, hvp, hl⟩ := hcut
    have hall : allR W [(X : Int)] L [(s' : Int), (p' : Int)] = ([((a' % 2 ^ W : Nat) : Int), ((b' % 2 ^ W : Nat) : Int)], 0) := by
      rw [allR_in (by intro t ht; simp at ht; rcases ht with rfl | rfl <;> omega)]
      simp only [allV, List.map_cons, List.map_nil, Int.toNat_natCast, hvs, hvp]
    have m1 := and_mask a' W (by omega) hW1 hW2
    have m2 := and_mask b' W (by omega) hW1 hW2
    obtain ⟨MM, hMM⟩ : ∃ MM : Nat, 2 ^ W - 1 = MM := ⟨_, rfl⟩
    have hmk := fun wx => rmask_any W hW1 hW2 wx
    rw [hMM] at m1 m2 hmk
    obtain ⟨A, hA⟩ : ∃ A : Nat, a' % 2 ^ W = A := ⟨_, rfl⟩
    obtain ⟨B, hB⟩ : ∃ B : Nat, b' % 2 ^ W = B := ⟨_, rfl⟩
    rw [hA] at m1 hall
    rw [hB] at m2 hall
    have HALL := Lib.hid hall; have HL := Lib.hid hl; have HMK := Lib.hid hmk
    clear hall hl hmk hMM hA hB hvs hvp
    go_wp2_with fail
    go_at_call 12
    refine (((HL.out.grL _).grL _).all [(s' : Int), (p' : Int)] [(X : Int)] _ _ ((sliceOf_new wc .i64 3 [(s' : Int), (p' : Int)] 2).below (below_new _ _)) (by simpa using sliceOf_new (wc.alloc (.cells #[.int .i64 s', .int .i64 p'] 3)) .u64 25 [(X : Int)] 1) (by simp) (by simp) (by intro q hq; simp at hq; subst hq; omega) HALL.out).mono ?_
    rintro e w3 ⟨a3, m3, c3, rfl, h3⟩
    obtain rfl : m3 = 2 := nums_len h3.second
    have hsl := nums_slice h3.second
    obtain ⟨b0, o0, q0, rfl, d0, f0⟩ := hsl.parts' (i := 0) (by decide)
    obtain ⟨b1, o1, q1, e1, d1, f1⟩ := hsl.parts' (i := 1) (by decide)
    simp only [Option.some.injEq, Addr.mk.injEq, and_true] at e1
    obtain ⟨rfl, rfl⟩ := e1
    obtain rfl : (A : Int) = q0 := by simpa using f0
    obtain rfl : (B : Int) = q1 := by simpa using f1
    rw [Nat.add_zero] at d0
    have H3 := Lib.hid h3
    clear h3 hsl f0 f1
    go_wp2_with (first | (go_at_call 20; refine (width_any H3.out.gr).mono ?_; rintro e w7 ⟨rfl, rfl⟩) | (go_at_call 19; refine (HMK.out _).mono ?_; rintro e w8 ⟨rfl, rfl⟩) | (go_at_call 14; refine H3.out.awake11.mono ?_; rintro e w9 ⟨rfl, hb9⟩))
    go_ret
    exact ⟨rfl, hb9⟩
end Go.Proofs.Yteofgmjejocleaa
