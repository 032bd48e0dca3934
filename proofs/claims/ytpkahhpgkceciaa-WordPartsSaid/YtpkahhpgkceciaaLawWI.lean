/- Laws of words: WordParts. -/
import Derived.Test.YtpkahhpgkceciaaLawWH
import Derived.Deep.DeepCutAuto
import Derived.Deep.CutBlock
namespace Go.Proofs.Ytpkahhpgkceciaa
open Go.RowKit
set_option maxHeartbeats 400000

theorem u64s2 {x y : Int} (hx : 0 ≤ x ∧ x ≤ 18446744073709551615) (hy : 0 ≤ y ∧ y ≤ 18446744073709551615) : U64s [x, y] := by
  intro q hq
  simp at hq
  rcases hq with rfl | rfl <;> assumption
/-- What is added above the width. -/
def aboveOk (W : Nat) (h : Int) (A : Nat) : Prop := (W < 64 → A = h.toNat * 2 ^ W % 18446744073709551616) ∧ (¬ W < 64 → A = 0)
theorem above_word (W : Nat) (h : Int) (hh : 0 ≤ h ∧ h ≤ 18446744073709551615) (hW : W < 64) : ∃ A : Nat, IntKind.u64.wrap (h * 2 ^ W) = (A : Int) ∧ Hid (aboveOk W h A) := by
  obtain ⟨m, rfl⟩ := Int.eq_ofNat_of_zero_le hh.1
  refine ⟨m * 2 ^ W % 18446744073709551616, ?_, fun _ => by rw [Int.toNat_natCast], fun h => absurd hW h⟩
  rw [← wrap_u64_nat]
  simp
/-- Three words, with something added above the width. -/
theorem more_words (W : Nat) (_h2 : W ≤ 64) (x y z h : Int) (A : Nat) (hA : aboveOk W h A) (hx : 0 ≤ x ∧ x ≤ 18446744073709551615) (hy : 0 ≤ y ∧ y ≤ 18446744073709551615) (hz : 0 ≤ z ∧ z ≤ 18446744073709551615) :
    ∃ X Y Z : Nat, IntKind.u64.wrap (x + (A : Int)) = (X : Int) ∧ IntKind.u64.wrap (y - (A : Int)) = (Y : Int) ∧ bits .xor .u64 z (A : Int) = (Z : Int) ∧
      Hid (((X : Int) ≤ 18446744073709551615 ∧ (Y : Int) ≤ 18446744073709551615 ∧ (Z : Int) ≤ 18446744073709551615) ∧ X % 2 ^ W = x.toNat % 2 ^ W ∧ Y % 2 ^ W = y.toNat % 2 ^ W ∧ Z % 2 ^ W = z.toNat % 2 ^ W) := by
  obtain ⟨a, rfl⟩ := Int.eq_ofNat_of_zero_le hx.1
  obtain ⟨b, rfl⟩ := Int.eq_ofNat_of_zero_le hy.1
  obtain ⟨c, rfl⟩ := Int.eq_ofNat_of_zero_le hz.1
  have hAl : A < 18446744073709551616 := by
    by_cases hW : W < 64
    · rw [hA.1 hW]; exact Nat.mod_lt _ (by decide)
    · rw [hA.2 hW]; decide
  have hzl : c ^^^ A < 2 ^ 64 := Nat.xor_lt_two_pow (by omega) (by omega)
  refine ⟨(a + A) % 18446744073709551616, (b + 18446744073709551616 - A) % 18446744073709551616, c ^^^ A, ?_, ?_, u64_xor_nat _ _ (by omega) hAl, ⟨by omega, by omega, by omega⟩, ?_, ?_, ?_⟩
  · rw [← wrap_u64_nat]; simp
  · rw [IntKind.wrap_u64]; omega
  · rw [Int.toNat_natCast]
    by_cases hW : W < 64
    · rw [hA.1 hW]; exact above_add W a _ hW
    · rw [hA.2 hW, Nat.add_zero, Nat.mod_eq_of_lt (by omega : a < 18446744073709551616)]
  · rw [Int.toNat_natCast]
    by_cases hW : W < 64
    · rw [hA.1 hW]; exact above_sub W b _ hW (by omega)
    · rw [hA.2 hW, Nat.sub_zero, Nat.add_mod_right, Nat.mod_eq_of_lt (by omega : b < 18446744073709551616)]
  · rw [Int.toNat_natCast]
    by_cases hW : W < 64
    · rw [hA.1 hW]; exact above_xor W c _ hW
    · rw [hA.2 hW, Nat.xor_zero]
theorem wA_take (W : Nat) (xs : List Int) (n i : Nat) : wA W (xs.take n) i = if i < n then wA W xs i else 0 := by
  unfold wA
  rw [List.getD_eq_getElem?_getD, List.getElem?_take]
  split
  · rw [List.getD_eq_getElem?_getD]
  · simp
theorem wN_more (W p n : Nat) (x y z : Int) (X Y Z : Nat) (h : X % 2 ^ W = x.toNat % 2 ^ W ∧ Y % 2 ^ W = y.toNat % 2 ^ W ∧ Z % 2 ^ W = z.toNat % 2 ^ W) :
    wN p W ([(X : Int), (Y : Int), (Z : Int)].take n) = wN p W ([x, y, z].take n) := by
  have e : ∀ i, wA W [(X : Int), (Y : Int), (Z : Int)] i = wA W [x, y, z] i := by
    intro i
    match i with
    | 0 => simpa [wA] using h.1
    | 1 => simpa [wA] using h.2.1
    | 2 => simpa [wA] using h.2.2
    | i + 3 => simp [wA]
  unfold wN
  simp only [wA_take, e]
theorem wN_low (K W p n : Nat) (x y z : Int) (h : K ≤ W) (hk : 1 ≤ K) (hn : aryN p = n) (hp : p = 4 ∨ p = 5 ∨ p = 6 ∨ p = 2 ∨ p = 3 ∨ p = 9 ∨ p = 10 ∨ p = 11) :
    wN p K ([x, y, z].take n) = wN p W ([x, y, z].take n) % 2 ^ K := by
  have hp' : p = 2 ∨ p = 3 ∨ p = 4 ∨ p = 5 ∨ p = 6 ∨ p = 9 ∨ p = 10 ∨ p = 11 := by omega
  by_cases h1 : p ≤ 3
  · obtain rfl : n = 1 := by rw [← hn]; unfold aryN; rw [if_neg (by omega), if_pos h1]
    rw [wN_take1, wN_take1]
    exact m_low K W p _ _ h hk hp'
  · obtain rfl : n = 2 := by rw [← hn]; unfold aryN; rw [if_neg (by omega), if_neg h1, if_neg (by omega)]
    rw [wN_take2, wN_take2]
    exact m_low K W p _ _ h hk hp'
set_option maxRecDepth 100000 in
theorem wordParts_walk (Wi oi li x y z h : Int) (hW0 : 0 ≤ Wi) (hW1 : Wi ≤ 255) (ho0 : 0 ≤ oi) (ho1 : oi ≤ 255) (hl0 : 0 ≤ li) (hl1 : li ≤ 255) (hx : 0 ≤ x ∧ x ≤ 18446744073709551615) (hy : 0 ≤ y ∧ y ≤ 18446744073709551615) (hz : 0 ≤ z ∧ z ≤ 18446744073709551615) (hh : 0 ≤ h ∧ h ≤ 18446744073709551615) (w : World) :
    Calls Try.prog 14 #[.int .u8 Wi, .int .u8 oi, .int .u8 li, .int .u64 x, .int .u64 y, .int .u64 z, .int .u64 h] w fun e w' => e = .returned (.bool true) ∧ Below w.heap.size w w' := by
  obtain ⟨p, hp⟩ : ∃ p : Nat, 2 + oi % 20 = (p : Int) := ⟨(2 + oi % 20).toNat, by omega⟩
  have hp1 : 2 ≤ p := by omega
  have hp2 : p ≤ 21 := by omega
  obtain ⟨n, hn⟩ : ∃ n, aryN p = n := ⟨_, rfl⟩
  have hn1 : 1 ≤ n := by rw [← hn]; unfold aryN; rw [if_neg (by omega)]; split; · omega
                         · split <;> omega
  have hn3 : n ≤ 3 := by rw [← hn]; exact aryN_le p
  have har : ∀ w', Calls Try.prog 43 #[.int .u8 p] w' fun e w'' => e = .returned (.tuple #[.int .i64 n, .int .i64 0]) ∧ Below w'.heap.size w' w'' := by
    intro w'
    refine (arity_any p (by omega) (by omega) w').mono ?_
    rintro e w'' ⟨rfl, hb⟩
    refine ⟨?_, hb⟩
    rw [if_neg (by omega), if_neg (by omega), Int.toNat_natCast, hn]
  have HN := Lib.hid hn; have HAR := Lib.hid har
  clear hn har
  go_enter Try.func14, Try.ntmps14
  go_wp2_with fail
  refine (with_any _ hW0 hW1 _).mono ?_
  rintro e w0 ⟨rfl, hcs0, -⟩
  obtain ⟨W, hW⟩ : ∃ W, 1 + Wi.toNat % 64 = W := ⟨_, rfl⟩
  rw [hW] at hcs0
  have h1 : 1 ≤ W := by omega
  have h2 : W ≤ 64 := by omega
  clear hW
  obtain ⟨cb, hcb⟩ : ∃ cb, w.heap.size = cb := ⟨_, rfl⟩
  have hcc : CC cb W w0 := by rw [← hcb]; exact hcs0.1
  have hb0 : Below w.heap.size w w0 := hcs0.2.1
  rw [hcb]
  have HC0 := Lib.hid hcc; have HB0 := Lib.hid hb0
  have c0 := hcc.c0
  clear hcs0 hcb hcc hb0
  go_upto_if 48 with (go_at_call 43; refine (HAR.out _).mono ?_; rintro e w1 ⟨rfl, hb1⟩; have c1 := cell_later hb1 c0)
  have HC1 := Lib.hid (HC0.out.later hb1); have HB1 := Lib.hid (HB0.out.trans (hb1.mono HB0.out.size))
  clear c0 hb1
  go_cut [18] (fun a wx => ∃ A : Nat, a = .int .u64 A ∧ Hid (aboveOk W h A) ∧ wx = w1)
  case first =>
    by_cases hW : W < 64
    · have hsh : ∃ A : Nat, IntKind.u64.wrap (h * 2 ^ W) = (A : Int) ∧ Hid (aboveOk W h A) := above_word W h hh hW
      obtain ⟨A, hA1, hA2⟩ := hsh
      go_wp2

      go_meet
      exact ⟨A, rfl, hA2, rfl⟩
    · go_wp2
      go_meet
      exact ⟨0, rfl, ⟨fun hlt => absurd hlt hW, fun _ => rfl⟩, rfl⟩
  case rest =>
    obtain ⟨A, rfl, hA, rfl⟩ := hcut
    obtain ⟨X, Y, Z, hX, hY, hZ, hM⟩ := more_words W h2 x y z h A hA.out hx hy hz
    obtain ⟨s1, hs1⟩ : ∃ s1, wc.heap.size = s1 := ⟨_, rfl⟩
    go_upto_region 10 with fail
    have HS1 := Lib.hid hs1
    clear hs1 hX hY hZ
    refine wp_name (fun w2 => Below w.heap.size w w2 ∧ CC cb W w2 ∧ SliceOf w2 .u64 (.slice (some ⟨s1, 0, none⟩) 3 3) [x, y, z] ∧ SliceOf w2 .u64 (.slice (some ⟨s1 + 1, 0, none⟩) 3 3) [(X : Int), (Y : Int), (Z : Int)]) ?_ ?_
    · rw [← HS1.out]
      have hb1 := below_new wc (.cells #[.int .u64 x, .int .u64 y, .int .u64 z] 31)
      have hb2 := below_new (wc.alloc (.cells #[.int .u64 x, .int .u64 y, .int .u64 z] 31)) (.cells #[.int .u64 X, .int .u64 Y, .int .u64 Z] 31)
      refine ⟨(HB1.out.trans (hb1.mono HB1.out.size)).trans (hb2.mono (Nat.le_trans HB1.out.size hb1.size)), (HC1.out.later hb1).later hb2, (sliceOf_new wc .u64 31 [x, y, z] 3).below hb2, ?_⟩
      have := sliceOf_new (wc.alloc (.cells #[.int .u64 x, .int .u64 y, .int .u64 z] 31)) .u64 31 [(X : Int), (Y : Int), (Z : Int)] 3
      rw [World.size_alloc] at this
      exact this
    rintro w2 ⟨hb2, hc2, hsl1, hsl2⟩
    obtain ⟨v, hv⟩ : ∃ v, wN p W ([x, y, z].take n) = v := ⟨_, rfl⟩
    have hvl : v < 2 ^ W := by rw [← hv]; exact wop_lt W p _ _ _ h1 (Nat.mod_lt _ (pow_pos2 W)) (Nat.mod_lt _ (pow_pos2 W)) (Nat.mod_lt _ (pow_pos2 W))
    have hp64 := pow_le64 h2
    have hv64 : (v : Int) ≤ 18446744073709551615 := by omega
    have hof1 : ∀ wx, Below w2.heap.size w2 wx → Calls Try.prog 42 #[.pointer (some ⟨cb, 0, none⟩), .int .u8 p, .slice (some ⟨s1, 0, none⟩) n 3] wx fun e w' => e = .returned (.int .u64 v) ∧ Below wx.heap.size wx w' := by
      intro wx hb
      have := of_b cb W h1 h2 p (by omega) (by omega) _ _ wx (sliceOf_take (hsl1.below hb) hn3) (u64s3 hx hy hz n) (by rw [Int.toNat_natCast, HN.out]; simp; omega) (hc2.later hb)
      rw [Int.toNat_natCast, hv] at this
      exact this
    have hof2 : ∀ wx, Below w2.heap.size w2 wx → Calls Try.prog 42 #[.pointer (some ⟨cb, 0, none⟩), .int .u8 p, .slice (some ⟨s1 + 1, 0, none⟩) n 3] wx fun e w' => e = .returned (.int .u64 v) ∧ Below wx.heap.size wx w' := by
      intro wx hb
      have hM' := hM.out
      have := of_b cb W h1 h2 p (by omega) (by omega) _ _ wx (sliceOf_take (hsl2.below hb) hn3) (u64s3 ⟨by omega, hM'.1.1⟩ ⟨by omega, hM'.1.2.1⟩ ⟨by omega, hM'.1.2.2⟩ n) (by rw [Int.toNat_natCast, HN.out]; simp; omega) (hc2.later hb)
      rw [Int.toNat_natCast, wN_more W p n x y z X Y Z hM'.2, hv] at this
      exact this
    have htr : ∀ wx, Below w2.heap.size w2 wx → Calls Try.prog 41 #[.pointer (some ⟨cb, 0, none⟩), .int .u64 v] wx fun e w' => e = .returned (.int .u64 v) ∧ Below wx.heap.size wx w' := by
      intro wx hb
      have := trim_b cb W h1 h2 v (by omega) hv64 wx (hc2.later hb)
      rw [Int.toNat_natCast, Nat.mod_eq_of_lt hvl] at this
      exact this
    obtain ⟨K, hK⟩ : ∃ K : Nat, 1 + li % (W : Int) = (K : Int) := ⟨(1 + li % (W : Int)).toNat, by have := Int.emod_nonneg li (show (W : Int) ≠ 0 by omega); omega⟩
    have hK1 : 1 ≤ K := by have := Int.emod_nonneg li (show (W : Int) ≠ 0 by omega); omega
    have hKW : K ≤ W := by have := Int.emod_lt_of_pos li (show (0 : Int) < W by omega); omega
    have HB2 := Lib.hid hb2; have HC2 := Lib.hid hc2; have HSL1 := Lib.hid hsl1; have HV := Lib.hid hv; have HO1 := Lib.hid hof1; have HO2 := Lib.hid hof2; have HTR := Lib.hid htr; have HVL := Lib.hid (And.intro hvl hp64)
    clear hb2 hc2 hsl1 hsl2 hv hof1 hof2 htr hvl hp64
    go_wp2_with fail
    refine (HO1.out _ (Below.refl _ _)).mono ?_
    rintro e w3 ⟨rfl, hb3⟩
    go_wp2_with fail
    refine (HTR.out _ hb3).mono ?_
    rintro e w4 ⟨rfl, hb4⟩
    have hb4 := hb3.trans (hb4.mono hb3.size)
    go_wp2_with fail
    refine (HO2.out _ hb4).mono ?_
    rintro e w5 ⟨rfl, hb5⟩
    have hb5 := hb4.trans (hb5.mono hb4.size)
    have c5 := (HC2.out.later hb5).c0
    have hWz : ((W : Int) == 0) = false := by rw [beq_eq_false_iff_ne]; omega
    clear hb3 hb4
    have HB5 := Lib.hid hb5
    clear hb5
    obtain ⟨kb, hkb⟩ : ∃ kb, w5.heap.size = kb := ⟨_, rfl⟩
    go_upto_block 0 with fail
    have HKB := Lib.hid hkb
    clear hkb hK
    refine wp_name (fun w6 => Below w2.heap.size w2 w6 ∧ CC kb K w6) ?_ ?_
    · rw [← HKB.out]
      exact ⟨HB5.out.trans ((below_new _ _).mono HB5.out.size), heap_alloc_new _ _⟩
    rintro w6 ⟨hb6, hc6⟩
    have HB6 := Lib.hid hb6; have HC6 := Lib.hid hc6
    clear hb6 hc6 c5
    have hok : ∀ wx, Below w6.heap.size w6 wx → Calls Try.prog 42 #[.pointer (some ⟨kb, 0, none⟩), .int .u8 p, .slice (some ⟨s1, 0, none⟩) n 3] wx fun e w' => e = .returned (.int .u64 ((wN p K ([x, y, z].take n) : Nat) : Int)) ∧ Below wx.heap.size wx w' := by
      intro wx hb
      have := of_b kb K hK1 (by omega) p (by omega) (by omega) _ _ wx (sliceOf_take (HSL1.out.below (HB6.out.trans (hb.mono HB6.out.size))) hn3) (u64s3 hx hy hz n) (by rw [Int.toNat_natCast, HN.out]; simp; omega) (HC6.out.later hb)
      rw [Int.toNat_natCast] at this
      exact this
    have htk : ∀ wx, Below w6.heap.size w6 wx → Calls Try.prog 41 #[.pointer (some ⟨kb, 0, none⟩), .int .u64 v] wx fun e w' => e = .returned (.int .u64 ((v % 2 ^ K : Nat) : Int)) ∧ Below wx.heap.size wx w' := by
      intro wx hb
      have := trim_b kb K hK1 (by omega) v (by omega) hv64 wx (HC6.out.later hb)
      rw [Int.toNat_natCast] at this
      exact this
    have HOK := Lib.hid hok; have HTK := Lib.hid htk
    clear hok htk
    go_cut [14] (fun b wx => b = .bool false ∧ Below w6.heap.size w6 wx)
    case first =>
      by_cases hset : p = 4 ∨ p = 5 ∨ p = 6 ∨ p = 2 ∨ p = 3 ∨ p = 9 ∨ p = 10 ∨ p = 11
      · have hlow := wN_low K W p n x y z hKW hK1 HN.out hset
        rw [HV.out] at hlow
        have HOK' : Hid (∀ wx, Below w6.heap.size w6 wx → Calls Try.prog 42 #[.pointer (some ⟨kb, 0, none⟩), .int .u8 p, .slice (some ⟨s1, 0, none⟩) n 3] wx fun e w' => e = .returned (.int .u64 ((v % 2 ^ K : Nat) : Int)) ∧ Below wx.heap.size wx w') := by rw [← hlow]; exact HOK.out
        clear hlow
        obtain ⟨r, hr⟩ : ∃ r : Nat, v % 2 ^ K = r := ⟨_, rfl⟩
        rw [hr] at HOK' HTK
        clear hr
        by_cases g4 : p = 4
        · have q4 : ((p : Int) == 4) = true := by rw [beq_iff_eq]; omega
          clear hset g4
          go_wp2_with fail
          refine (HOK'.out _ (Below.refl _ _)).mono ?_
          rintro e w7 ⟨rfl, hb7⟩
          go_wp2_with fail
          refine (HTK.out _ hb7).mono ?_
          rintro e w8 ⟨rfl, hb8⟩
          go_wp2
          go_meet
          exact ⟨rfl, hb7.trans (hb8.mono hb7.size)⟩
        have q4 : ((p : Int) == 4) = false := by rw [beq_eq_false_iff_ne]; omega
        by_cases g5 : p = 5
        · have q5 : ((p : Int) == 5) = true := by rw [beq_iff_eq]; omega
          clear hset g4 g5
          go_wp2_with fail
          refine (HOK'.out _ (Below.refl _ _)).mono ?_
          rintro e w7 ⟨rfl, hb7⟩
          go_wp2_with fail
          refine (HTK.out _ hb7).mono ?_
          rintro e w8 ⟨rfl, hb8⟩
          go_wp2
          go_meet
          exact ⟨rfl, hb7.trans (hb8.mono hb7.size)⟩
        have q5 : ((p : Int) == 5) = false := by rw [beq_eq_false_iff_ne]; omega
        by_cases g6 : p = 6
        · have q6 : ((p : Int) == 6) = true := by rw [beq_iff_eq]; omega
          clear hset g4 g5 g6
          go_wp2_with fail
          refine (HOK'.out _ (Below.refl _ _)).mono ?_
          rintro e w7 ⟨rfl, hb7⟩
          go_wp2_with fail
          refine (HTK.out _ hb7).mono ?_
          rintro e w8 ⟨rfl, hb8⟩
          go_wp2
          go_meet
          exact ⟨rfl, hb7.trans (hb8.mono hb7.size)⟩
        have q6 : ((p : Int) == 6) = false := by rw [beq_eq_false_iff_ne]; omega
        by_cases g2 : p = 2
        · have q2 : ((p : Int) == 2) = true := by rw [beq_iff_eq]; omega
          clear hset g4 g5 g6 g2
          go_wp2_with fail
          refine (HOK'.out _ (Below.refl _ _)).mono ?_
          rintro e w7 ⟨rfl, hb7⟩
          go_wp2_with fail
          refine (HTK.out _ hb7).mono ?_
          rintro e w8 ⟨rfl, hb8⟩
          go_wp2
          go_meet
          exact ⟨rfl, hb7.trans (hb8.mono hb7.size)⟩
        have q2 : ((p : Int) == 2) = false := by rw [beq_eq_false_iff_ne]; omega
        by_cases g3 : p = 3
        · have q3 : ((p : Int) == 3) = true := by rw [beq_iff_eq]; omega
          clear hset g4 g5 g6 g2 g3
          go_wp2_with fail
          refine (HOK'.out _ (Below.refl _ _)).mono ?_
          rintro e w7 ⟨rfl, hb7⟩
          go_wp2_with fail
          refine (HTK.out _ hb7).mono ?_
          rintro e w8 ⟨rfl, hb8⟩
          go_wp2
          go_meet
          exact ⟨rfl, hb7.trans (hb8.mono hb7.size)⟩
        have q3 : ((p : Int) == 3) = false := by rw [beq_eq_false_iff_ne]; omega
        by_cases g9 : p = 9
        · have q9 : ((p : Int) == 9) = true := by rw [beq_iff_eq]; omega
          clear hset g4 g5 g6 g2 g3 g9
          go_wp2_with fail
          refine (HOK'.out _ (Below.refl _ _)).mono ?_
          rintro e w7 ⟨rfl, hb7⟩
          go_wp2_with fail
          refine (HTK.out _ hb7).mono ?_
          rintro e w8 ⟨rfl, hb8⟩
          go_wp2
          go_meet
          exact ⟨rfl, hb7.trans (hb8.mono hb7.size)⟩
        have q9 : ((p : Int) == 9) = false := by rw [beq_eq_false_iff_ne]; omega
        by_cases g10 : p = 10
        · have q10 : ((p : Int) == 10) = true := by rw [beq_iff_eq]; omega
          clear hset g4 g5 g6 g2 g3 g9 g10
          go_wp2_with fail
          refine (HOK'.out _ (Below.refl _ _)).mono ?_
          rintro e w7 ⟨rfl, hb7⟩
          go_wp2_with fail
          refine (HTK.out _ hb7).mono ?_
          rintro e w8 ⟨rfl, hb8⟩
          go_wp2
          go_meet
          exact ⟨rfl, hb7.trans (hb8.mono hb7.size)⟩
        have q10 : ((p : Int) == 10) = false := by rw [beq_eq_false_iff_ne]; omega
        by_cases g11 : p = 11
        · have q11 : ((p : Int) == 11) = true := by rw [beq_iff_eq]; omega
          clear hset g4 g5 g6 g2 g3 g9 g10 g11
          go_wp2_with fail
          refine (HOK'.out _ (Below.refl _ _)).mono ?_
          rintro e w7 ⟨rfl, hb7⟩
          go_wp2_with fail
          refine (HTK.out _ hb7).mono ?_
          rintro e w8 ⟨rfl, hb8⟩
          go_wp2
          go_meet
          exact ⟨rfl, hb7.trans (hb8.mono hb7.size)⟩
        have q11 : ((p : Int) == 11) = false := by rw [beq_eq_false_iff_ne]; omega
        omega
      · have q4 : ((p : Int) == 4) = false := by rw [beq_eq_false_iff_ne]; omega
        have q5 : ((p : Int) == 5) = false := by rw [beq_eq_false_iff_ne]; omega
        have q6 : ((p : Int) == 6) = false := by rw [beq_eq_false_iff_ne]; omega
        have q2 : ((p : Int) == 2) = false := by rw [beq_eq_false_iff_ne]; omega
        have q3 : ((p : Int) == 3) = false := by rw [beq_eq_false_iff_ne]; omega
        have q9 : ((p : Int) == 9) = false := by rw [beq_eq_false_iff_ne]; omega
        have q10 : ((p : Int) == 10) = false := by rw [beq_eq_false_iff_ne]; omega
        have q11 : ((p : Int) == 11) = false := by rw [beq_eq_false_iff_ne]; omega
        clear hset
        by_cases h12 : p = 12
        · have q12 : ((p : Int) == 12) = true := by rw [beq_iff_eq]; omega
          obtain ⟨B, hB⟩ : ∃ B, y.toNat % 2 ^ W = B := ⟨_, rfl⟩
          have hBl : B < 2 ^ W := by rw [← hB]; exact Nat.mod_lt _ (pow_pos2 W)
          have hB64 : (B : Int) ≤ 18446744073709551615 := by have := HVL.out.2; omega
          have hty := trim_b cb W h1 h2 y hy.1 hy.2 w6 (HC2.out.later HB6.out)
          rw [hB] at hty
          have HTY := Lib.hid hty
          have hv12 : v = wm W 12 x.toNat y.toNat := by
            rw [← HV.out, h12]
            have : n = 2 := by rw [← HN.out, h12]; rfl
            rw [this, wN_take2]
          have k0 := HC6.out.c0
          have HV12 := Lib.hid hv12; have HBB := Lib.hid hB; have HP := Lib.hid h12
          have hkw : IntKind.u64.wrap (K : Int) = (K : Int) := by rw [wrap_u64_nat, Nat.mod_eq_of_lt (by omega)]
          clear hty hv12 hB hBl h12
          by_cases hbk : B < K
          · have hbk1 : decide ((B : Int) < (K : Int)) = true := decide_eq_true (by omega)
            have htb : Hid (∀ wx, Below w6.heap.size w6 wx → Calls Try.prog 41 #[.pointer (some ⟨kb, 0, none⟩), .int .u64 B] wx fun e w' => e = .returned (.int .u64 ((B % 2 ^ K : Nat) : Int)) ∧ Below wx.heap.size wx w') := by
              intro wx hb
              have := trim_b kb K hK1 (by omega) B (by omega) hB64 wx (HC6.out.later hb)
              rw [Int.toNat_natCast] at this
              exact this
            by_cases hbb : B % 2 ^ K = B
            · rw [hbb] at htb
              have hshl := m_low_shl K W x.toNat y.toNat hKW (by rw [HBB.out]; exact hbk) (by rw [HBB.out]; exact hbb)
              rw [HBB.out, ← HV12.out] at hshl
              have hokb : Hid (∀ wx, Below w6.heap.size w6 wx → Calls Try.prog 42 #[.pointer (some ⟨kb, 0, none⟩), .int .u8 p, .slice (some ⟨wx.heap.size, 0, none⟩) 2 2] (wx.alloc (.cells #[.int .u64 x, .int .u64 B] 31)) fun e w' => e = .returned (.int .u64 ((v % 2 ^ K : Nat) : Int)) ∧ Below wx.heap.size wx w') := by
                intro wx hb
                have := of_b kb K hK1 (by omega) p (by omega) (by omega) _ [x, (B : Int)] _ (sliceOf_new wx .u64 31 [x, (B : Int)] 2) (u64s2 hx ⟨by omega, hB64⟩) (by rw [Int.toNat_natCast, HP.out]; rfl) ((HC6.out.later hb).later (below_new wx _))
                rw [Int.toNat_natCast, wN2, Int.toNat_natCast, HP.out, hshl, ← HP.out] at this
                exact this.mono fun e w' ⟨h1, h2⟩ => ⟨h1, (below_new wx _).trans (h2.mono (by simp))⟩
              clear hshl hbb
              obtain ⟨r, hr⟩ : ∃ r : Nat, v % 2 ^ K = r := ⟨_, rfl⟩
              rw [hr] at hokb HTK
              clear hr
              go_wp2_with fail
              refine HTY.out.mono ?_
              rintro e w7 ⟨rfl, hb7⟩
              have k7 := (HC6.out.later hb7).c0
              go_wp2_with fail
              refine (htb.out _ hb7).mono ?_
              rintro e w8 ⟨rfl, hb8⟩
              have hb8 := hb7.trans (hb8.mono hb7.size)
              go_wp2_with fail
              refine (hokb.out _ hb8).mono ?_
              rintro e w9 ⟨rfl, hb9⟩
              have hb9 := hb8.trans (hb9.mono hb8.size)
              go_wp2_with fail
              refine (HTK.out _ hb9).mono ?_
              rintro e w10 ⟨rfl, hb10⟩
              go_wp2
              go_meet
              exact ⟨rfl, hb9.trans (hb10.mono hb9.size)⟩
            · have hbn : (((B % 2 ^ K : Nat) : Int) == (B : Int)) = false := by rw [beq_eq_false_iff_ne]; omega
              obtain ⟨r, hr⟩ : ∃ r : Nat, B % 2 ^ K = r := ⟨_, rfl⟩
              rw [hr] at htb hbn
              clear hr hbb
              go_wp2_with fail
              refine HTY.out.mono ?_
              rintro e w7 ⟨rfl, hb7⟩
              have k7 := (HC6.out.later hb7).c0
              go_wp2_with fail
              refine (htb.out _ hb7).mono ?_
              rintro e w8 ⟨rfl, hb8⟩
              go_wp2
              go_meet
              exact ⟨rfl, hb7.trans (hb8.mono hb7.size)⟩
          · have hbk1 : decide (B < K) = false := decide_eq_false hbk
            go_wp2_with fail
            refine HTY.out.mono ?_
            rintro e w7 ⟨rfl, hb7⟩
            have k7 := (HC6.out.later hb7).c0
            go_wp2
            go_meet
            exact ⟨rfl, hb7⟩
        · have q12 : ((p : Int) == 12) = false := by rw [beq_eq_false_iff_ne]; omega
          clear h12
          go_wp2
          go_meet
          exact ⟨rfl, Below.refl _ _⟩
    case rest =>
      obtain ⟨rfl, hb7⟩ := hcut
      have k1 := (HC2.out.later (HB6.out.trans (hb7.mono HB6.out.size))).c1
      have k2 := (HC6.out.later hb7).c1
      have HB7 := Lib.hid hb7
      clear hb7
      go_wp2_with (go_at_call 30; refine (known_b _).mono ?_; rintro e w8 ⟨rfl, hb8⟩)
      go_ret
      have hA := HB2.out.trans (HB6.out.mono HB2.out.size)
      have hB := hA.trans (HB7.out.mono hA.size)
      exact ⟨rfl, hB.trans (hb8.mono hB.size)⟩
end Go.Proofs.Ytpkahhpgkceciaa
