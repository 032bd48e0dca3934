/- Const, Var, May, App and Node of a reference's graph. -/
import Derived.Test.YtofbadmjopefpaaRGraphB
import Derived.Test.YtofbadmjopefpaaRefW
namespace Go.Proofs.Ytofbadmjopefpaa
open Go.RowKit Go.Maps
set_option maxHeartbeats 800000

theorem RPost.later {w w2 w' : World} {base : Nat} {F I : List Nat} {rb W room : Nat} {R : List PNode × Nat × Nat} {e : Ending} (h : RPost w2 base F I rb W room R e w') (hb : Below w.heap.size w w2) : RPost w base F I rb W room R e w' := by
  obtain ⟨F', I', h1, h2, h3, h4, h5⟩ := h
  exact ⟨F', I', h1, h2, (Touch.of_below hb F).trans h3 (fun k hk => .inl hk), fun k hk => (h4 k hk).imp id (fun h => by have := hb.size; omega), fun k hk => (h5 k hk).imp id (fun h => by have := hb.size; omega)⟩
section
variable {w : World} {base : Nat} {F I : List Nat} {rb W room : Nat} {L : List PNode}
theorem RPost.same (h : RGr w base F I rb W room L) {w' : World} (hb : Below w.heap.size w w') (t f : Nat) : RPost w base F I rb W room (L, t, f) (.returned (.tuple #[.int .i64 t, .int .i64 f])) w' :=
  ⟨F, I, rfl, h.later hb, Touch.of_below hb F, fun _ hk => .inl hk, fun _ hk => .inl hk⟩
theorem rconst_any (h : RGr w base F I rb W room L) (q : Nat) (hq : q < 18446744073709551616) :
    Calls Try.prog 36 #[.pointer (some ⟨rb, 0, none⟩), .int .u64 q] w (RPost w base F I rb W room (constR W room L q)) := by
  obtain ⟨a, cap, c0, c1, c2, hl⟩ := h.parts
  have hm : q % 2 ^ W < 18446744073709551616 := Nat.lt_of_le_of_lt (Nat.mod_le _ _) hq
  have ha := and_mask q W hq h.w1 h.w2
  have hw1 := h.w1
  have hw2 := h.w2
  unfold constR
  obtain ⟨m, hm'⟩ : ∃ m, q % 2 ^ W = m := ⟨_, rfl⟩
  rw [hm'] at hm ha ⊢
  have H0 := Lib.hid h; have HMK := Lib.hid (rmask_any W hw1 hw2 w)
  clear h hm'
  obtain ⟨M, hM⟩ : ∃ M : Nat, 2 ^ W - 1 = M := ⟨_, rfl⟩
  rw [hM] at ha HMK
  clear hM
  go_enter Try.func36, Try.ntmps36
  go_wp2_with fail
  refine HMK.out.mono ?_
  rintro e w' ⟨rfl, rfl⟩
  go_wp2_with fail
  refine (rask_any H0.out 0 m [] _ (IntsAt.nil w) (by simp [Value.ownBlock]) (nodeOk_leaf (by decide) hm) (by simp)).mono ?_
  rintro e w' ⟨F', I', rfl, g1, g2, g3, g4⟩
  go_wp2
  go_ret2
  exact ⟨F', I', rfl, g1, g2, g3, fun k hk => (g4 k hk).imp id (fun h => by simp [Value.ownBlock] at h)⟩
theorem rvar_any (h : RGr w base F I rb W room L) (n : Int) :
    Calls Try.prog 37 #[.pointer (some ⟨rb, 0, none⟩), .int .i64 n] w (RPost w base F I rb W room (varR room L n)) := by
  have H0 := Lib.hid h
  clear h
  by_cases h1 : n < 0
  · have hr : varR room L n = (L, 0, 3) := by unfold varR; rw [if_neg (by omega)]
    rw [hr]
    clear hr
    go_enter Try.func37, Try.ntmps37
    go_wp2
    go_ret2
    exact RPost.same H0.out (Below.refl _ _) 0 3
  · by_cases h2 : n > 4194303
    · have hr : varR room L n = (L, 0, 3) := by unfold varR; rw [if_neg (by omega)]
      rw [hr]
      clear hr
      go_enter Try.func37, Try.ntmps37
      go_wp2
      go_ret2
      exact RPost.same H0.out (Below.refl _ _) 0 3
    · obtain ⟨m, rfl⟩ := Int.eq_ofNat_of_zero_le (show 0 ≤ n by omega)
      have hr : varR room L (m : Int) = askP room L (1, m, []) := by unfold varR; rw [if_pos (by omega)]; simp
      rw [hr]
      clear hr
      have hwr : IntKind.u64.wrap (m : Int) = (m : Int) := by rw [wrap_u64_nat, Nat.mod_eq_of_lt (by omega)]
      go_enter Try.func37, Try.ntmps37
      go_wp2_with (go_at_call 47; refine (rask_any H0.out 1 m [] _ (IntsAt.nil w) (by simp [Value.ownBlock]) (nodeOk_leaf (by decide) (by omega)) (by simp)).mono ?_; rintro e w' ⟨F', I', rfl, g1, g2, g3, g4⟩)
      go_ret2
      exact ⟨F', I', rfl, g1, g2, g3, fun k hk => (g4 k hk).imp id (fun h => by simp [Value.ownBlock] at h)⟩
theorem rconst_nil (w : World) (q : Int) : Calls Try.prog 36 #[.pointer none, .int .u64 q] w fun e w' => e = .returned (.tuple #[.int .i64 0, .int .i64 1]) ∧ w = w' := by
  go_enter Try.func36, Try.ntmps36
  go_wp2
  go_ret2
  exact ⟨rfl, rfl⟩
/-- The errors that come before room. -/
def mayR (L : List PNode) (o : Nat) (xs : List Int) : Nat := if o ≤ 21 ∧ aryN o ≠ 0 ∧ aryN o = xs.length then (if ∀ a ∈ xs, (0 : Int) ≤ a ∧ a < (L.length : Int) then 0 else 3) else 2
theorem appR_may (room : Nat) (L : List PNode) (o : Nat) (xs : List Int) : appR room L o xs = if mayR L o xs = 0 then askP room L (o, 0, xs) else (L, 0, mayR L o xs) := by
  unfold appR mayR
  split
  · split <;> simp
  · simp
theorem rmay_bad (_h : RGr w base F I rb W room L) (o : Nat) (ho : o ≤ 255) (xs : List Int) (va : Value) (hv : SliceOf w .i64 va xs) (hb : ¬ (o ≤ 21 ∧ aryN o ≠ 0 ∧ aryN o = xs.length)) :
    Calls Try.prog 49 #[.pointer (some ⟨rb, 0, none⟩), .int .u8 o, va] w fun e w' => e = .returned (.int .i64 2) ∧ w = w' := by
  obtain ⟨a, n, cap, rfl, hna, -⟩ := hv.parts
  clear hv
  rw [hna] at hb
  clear hna
  obtain ⟨p, hp⟩ : ∃ p : Nat, (if 21 < (o : Int) then 0 else aryN (o : Int).toNat) = p := ⟨_, rfl⟩
  have hp' : 21 < (o : Int) ∨ p = 0 ∨ p ≠ n := by
    by_cases h1 : 21 < (o : Int)
    · exact .inl h1
    · rw [if_neg h1] at hp; simp at hp; right; omega
  have HP := Lib.hid hp
  clear hp hb
  have har : ∀ w', Calls Try.prog 69 #[.int .u8 o] w' fun e w'' => e = .returned (.tuple #[.int .i64 p, .int .i64 (if 21 < (o : Int) then 3 else 0)]) ∧ w' = w'' := by
    intro w'
    refine (rarity_any o (by omega) (by omega) w').mono ?_
    rintro e w'' ⟨rfl, hb⟩
    refine ⟨?_, hb⟩
    rw [← HP.out]
    by_cases h1 : 21 < (o : Int) <;> simp [h1]
  by_cases h1 : 21 < (o : Int)
  · rw [if_pos h1] at har
    clear hp'
    go_enter Try.func49, Try.ntmps49
    go_wp2_with (go_at_call 69; refine (har _).mono ?_; rintro e w' ⟨rfl, rfl⟩)
    go_ret
    exact ⟨rfl, rfl⟩
  · rw [if_neg h1] at har
    by_cases h0 : p = 0
    · subst h0
      go_enter Try.func49, Try.ntmps49
      go_wp2_with (go_at_call 69; refine (har _).mono ?_; rintro e w' ⟨rfl, rfl⟩)
      go_ret
      exact ⟨rfl, rfl⟩
    · have hpn : ((p : Int) != (n : Int)) = true := by simp; omega
      have hp0 : ((p : Int) == 0) = false := by simp; omega
      clear h0
      go_enter Try.func49, Try.ntmps49
      go_wp2_with (go_at_call 69; refine (har _).mono ?_; rintro e w' ⟨rfl, rfl⟩)
      go_ret
      exact ⟨rfl, rfl⟩
theorem rmay_good (h : RGr w base F I rb W room L) (o : Nat) (ho : o ≤ 21) (xs : List Int) (va : Value) (hv : SliceOf w .i64 va xs) (h0 : aryN o ≠ 0) (hl : aryN o = xs.length) :
    Calls Try.prog 49 #[.pointer (some ⟨rb, 0, none⟩), .int .u8 o, va] w fun e w' => e = .returned (.int .i64 ((if ∀ a ∈ xs, (0 : Int) ≤ a ∧ a < (L.length : Int) then 0 else 3 : Nat) : Int)) ∧ w = w' := by
  obtain ⟨R, hR⟩ : ∃ R : Nat, (if ∀ a ∈ xs, (0 : Int) ≤ a ∧ a < (L.length : Int) then 0 else 3 : Nat) = R := ⟨_, rfl⟩
  rw [hR]
  have HR := Lib.hid hR
  clear hR
  obtain ⟨a, n, cap, rfl, hna, hcell⟩ := hv.parts
  have H0 := Lib.hid h
  clear hv
  have har : ∀ w', Calls Try.prog 69 #[.int .u8 o] w' fun e w'' => e = .returned (.tuple #[.int .i64 n, .int .i64 0]) ∧ w' = w'' := by
    intro w'
    refine (rarity_any o (by omega) (by omega) w').mono ?_
    rintro e w'' ⟨rfl, hb⟩
    refine ⟨?_, hb⟩
    rw [if_neg (show ¬ 21 < (o : Int) by omega), if_neg (show ¬ 21 < (o : Int) by omega), ← hna, ← hl]; simp
  have hn3 : n ≤ 3 := by have := aryN_le o; omega
  have hp0 : ((n : Int) == 0) = false := by simp; omega
  have hpn : ((n : Int) != (n : Int)) = false := by simp
  have HNA := Lib.hid (And.intro hna (And.intro h0 hl)); have Hc := Lib.hid hcell
  clear hna hcell h0 hl h
  go_enter Try.func49, Try.ntmps49
  go_wp2_with (go_at_call 69; refine (har _).mono ?_; rintro e w2 ⟨rfl, rfl⟩)
  go_loop [9] (fun i => ∃ k : Nat, k ≤ n ∧ i = .int .i64 k ∧ ∀ j, j < k → (0 : Int) ≤ xs.getD j 0 ∧ xs.getD j 0 < (L.length : Int)) (fun i => n - (intOf i).toNat)
  case atStart => exact ⟨0, by omega, rfl, fun j hj => by omega⟩
  case round =>
    obtain ⟨k, hk, rfl, hok⟩ := hrel
    by_cases hlt : k < n
    · obtain ⟨b, off, q, rfl, hc, hq⟩ := Hc.out k hlt
      have hqd : xs.getD k 0 = q := by rw [List.getD_eq_getElem?_getD, hq]; rfl
      have hqm : q ∈ xs := List.mem_of_getElem? hq
      have Hq := Lib.hid (And.intro hqd hqm)
      clear hq hqd hqm
      have his := rIs_any H0.out q
      by_cases hin : (0 : Int) ≤ q ∧ q < (L.length : Int)
      · have hT : isT L q = true := decide_eq_true hin
        rw [hT] at his
        have HIS := Lib.hid his
        clear his hT
        go_wp2_with (go_at_call 51; refine HIS.out.mono ?_; rintro e w2 ⟨rfl, rfl⟩)
        go_round
        case rel => exact ⟨k + 1, by omega, by go_num, fun j hj => by
          rcases Nat.lt_or_ge j k with h | h
          · exact hok j h
          · obtain rfl : j = k := by omega
            rw [Hq.out.1]; exact hin⟩
        case measure => simp [intOf]; omega
      · have hT : isT L q = false := decide_eq_false hin
        rw [hT] at his
        have HIS := Lib.hid his
        obtain rfl : R = 3 := by rw [← HR.out, if_neg (fun h' => hin (h' q Hq.out.2))]
        clear his hT hin
        go_wp2_with (go_at_call 51; refine HIS.out.mono ?_; rintro e w2 ⟨rfl, rfl⟩)
        go_ret
        exact ⟨rfl, rfl⟩
    · obtain rfl : k = n := by omega
      have hall : ∀ a ∈ xs, (0 : Int) ≤ a ∧ a < (L.length : Int) := by
        intro a ha
        obtain ⟨j, hj, rfl⟩ := List.getElem_of_mem ha
        have h := hok j (by have := HNA.out.1; omega)
        rw [List.getD_eq_getElem?_getD, List.getElem?_eq_getElem hj] at h
        exact h
      obtain rfl : R = 0 := by rw [← HR.out, if_pos hall]
      clear hall hok
      go_wp2
      go_ret
      exact ⟨rfl, rfl⟩
theorem rmay_any (h : RGr w base F I rb W room L) (o : Nat) (ho : o ≤ 255) (xs : List Int) (va : Value) (hv : SliceOf w .i64 va xs) :
    Calls Try.prog 49 #[.pointer (some ⟨rb, 0, none⟩), .int .u8 o, va] w fun e w' => e = .returned (.int .i64 (mayR L o xs)) ∧ w = w' := by
  unfold mayR
  by_cases hc : o ≤ 21 ∧ aryN o ≠ 0 ∧ aryN o = xs.length
  · rw [if_pos hc]; exact rmay_good h o hc.1 xs va hv hc.2.1 hc.2.2
  · rw [if_neg hc]; exact rmay_bad h o ho xs va hv hc
theorem rapp_any (h : RGr w base F I rb W room L) (o : Nat) (ho : o ≤ 255) (xs : List Int) (va : Value) (hv : SliceOf w .i64 va xs) :
    Calls Try.prog 38 #[.pointer (some ⟨rb, 0, none⟩), .int .u8 o, va] w (RPost w base F I rb W room (appR room L o xs)) := by
  have hmay := rmay_any h o ho xs va hv
  rw [appR_may]
  obtain ⟨a, n, cap, rfl, -, -⟩ := hv.parts
  have H0 := Lib.hid h
  by_cases h0 : mayR L o xs = 0
  · rw [if_pos h0]
    rw [h0] at hmay
    have hm : o ≤ 21 ∧ aryN o ≠ 0 ∧ aryN o = xs.length ∧ ∀ a ∈ xs, (0 : Int) ≤ a ∧ a < (L.length : Int) := by
      unfold mayR at h0
      split at h0
      · rename_i hc
        split at h0
        · exact ⟨hc.1, hc.2.1, hc.2.2, by assumption⟩
        · cases h0
      · cases h0
    have hx3 : xs.length ≤ 3 := by have := aryN_le o; omega
    have HM := Lib.hid hm; have HMAY := Lib.hid hmay; have HV := Lib.hid hv
    clear h0 hm hmay hv h
    go_enter Try.func38, Try.ntmps38
    go_wp2_with fail
    refine HMAY.out.mono ?_
    rintro e w2 ⟨rfl, rfl⟩
    go_wp2_with fail
    refine (copyInts_any xs _ _ HV.out (by omega)).mono ?_
    rintro e w2 ⟨v2, rfl, hv2, hb2⟩
    obtain ⟨a2, m2, c2, rfl⟩ := hv2.val
    have hask := rask_any (H0.out.later hb2) o 0 xs _ (intsAt_owns hv2) (intBlk_owns hv2) ⟨HM.out.1, Nat.zero_le _, HM.out.2.2.1.symm⟩ HM.out.2.2.2
    have HA := Lib.hid hask; have HV2 := Lib.hid hv2
    clear hask hv2
    go_wp2_with fail
    refine HA.out.mono ?_
    rintro e w4 ⟨F', I', rfl, g1, g2, g3, g4⟩
    go_wp2
    go_ret2
    exact ⟨F', I', rfl, g1, (Touch.of_below hb2 F).trans g2 (fun k hk => .inl hk), fun k hk => (g3 k hk).imp id (fun h => by have := hb2.size; omega), fun k hk => (g4 k hk).imp id (fun h => (HV2.out.lt k h).1)⟩
  · rw [if_neg h0]
    obtain ⟨m, hm⟩ : ∃ m, mayR L o xs = m := ⟨_, rfl⟩
    rw [hm] at hmay h0 ⊢
    have hmb : ((m : Int) != 0) = true := by rw [bne_iff_ne]; omega
    have HMAY := Lib.hid hmay
    clear hm hmay h0 hv h
    go_enter Try.func38, Try.ntmps38
    go_wp2_with fail
    refine HMAY.out.mono ?_
    rintro e w2 ⟨rfl, rfl⟩
    go_wp2
    go_ret2
    exact RPost.same H0.out (Below.refl _ _) 0 m
end
end Go.Proofs.Ytofbadmjopefpaa
