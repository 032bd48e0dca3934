/- Const, Var and App of package term. Mod of the kit; awake of law 10. -/
import Derived.Test.YtofbadmjopefpaaGraphE
namespace Go.Proofs.Ytofbadmjopefpaa
open Go.RowKit Go.Maps
set_option maxHeartbeats 800000

/-- What a graph's call that may add a node leaves behind. -/
def GPost (w : World) (base : Nat) (F I : List Nat) (gb W room : Nat) (R : List PNode × Nat × Nat) : Ending → World → Prop := fun e w' =>
  ∃ F' I', e = .returned (.tuple #[.int .i64 R.2.1, .int .i64 R.2.2]) ∧ Gr w' base F' I' gb W room R.1 ∧ Touch F w w' ∧ (∀ k, k ∈ F' → k ∈ F ∨ w.heap.size ≤ k) ∧ ∀ k, k ∈ I' → k ∈ I ∨ w.heap.size ≤ k
def constR (W room : Nat) (L : List PNode) (q : Nat) : List PNode × Nat × Nat := askP room L (0, q % 2 ^ W, [])
def varR (room : Nat) (L : List PNode) (n : Int) : List PNode × Nat × Nat := if 0 ≤ n ∧ n ≤ 4194303 then askP room L (1, n.toNat, []) else (L, 0, 3)
def appR (room : Nat) (L : List PNode) (o : Nat) (xs : List Int) : List PNode × Nat × Nat :=
  if o ≤ 21 ∧ aryN o ≠ 0 ∧ aryN o = xs.length then (if ∀ a ∈ xs, (0 : Int) ≤ a ∧ a < (L.length : Int) then askP room L (o, 0, xs) else (L, 0, 3)) else (L, 0, 2)
theorem GPost.later {w w2 w' : World} {base : Nat} {F I : List Nat} {gb W room : Nat} {R : List PNode × Nat × Nat} {e : Ending} (h : GPost w2 base F I gb W room R e w') (hb : Below w.heap.size w w2) : GPost w base F I gb W room R e w' := by
  obtain ⟨F', I', h1, h2, h3, h4, h5⟩ := h
  exact ⟨F', I', h1, h2, (Touch.of_below hb F).trans h3 (fun k hk => .inl hk), fun k hk => (h4 k hk).imp id (fun h => by have := hb.size; omega), fun k hk => (h5 k hk).imp id (fun h => by have := hb.size; omega)⟩
theorem intBlk_owns {w : World} {base : Nat} {v : Value} {xs : List Int} (h : OwnInts w base 3 .i64 v xs) : ∀ k, v.ownBlock = some k → IntBlk w k := by
  intro k hk
  rcases h.2 with ⟨rfl, h0⟩ | ⟨g, cap, cur, rfl, hb, hg, _⟩
  · simp [Value.ownBlock] at hk
  · simp only [Value.ownBlock, Option.some.injEq] at hk
    subst hk
    exact ⟨cur, _, hg⟩
theorem nodeOk_leaf {o m : Nat} (ho : o ≤ 1) (hm : m < 18446744073709551616) : NodeOk (o, m, []) := ⟨by show o ≤ 21; omega, by show m ≤ _; omega, by show 0 = aryN o; unfold aryN; rw [if_pos ho]⟩
section
variable {w : World} {base : Nat} {F I : List Nat} {gb W room : Nat} {L : List PNode}
theorem GPost.same (h : Gr w base F I gb W room L) {w' : World} (hb : Below w.heap.size w w') (t f : Nat) : GPost w base F I gb W room (L, t, f) (.returned (.tuple #[.int .i64 t, .int .i64 f])) w' :=
  ⟨F, I, rfl, h.later hb, Touch.of_below hb F, fun _ hk => .inl hk, fun _ hk => .inl hk⟩
theorem const_any (h : Gr w base F I gb W room L) (q : Nat) (hq : q < 18446744073709551616) :
    Calls Try.prog 35 #[.pointer (some ⟨gb, 0, none⟩), .int .u64 q] w (GPost w base F I gb W room (constR W room L q)) := by
  obtain ⟨a, cap, mb, c0, c1, c2, c3, cf, cm, hl⟩ := h.parts
  have ht : trimI W q = ((q % 2 ^ W : Nat) : Int) := by unfold trimI; rw [if_pos (chk_in (by have := h.w1; omega) (by have := h.w2; omega))]; simp
  have hm : q % 2 ^ W < 18446744073709551616 := Nat.lt_of_le_of_lt (Nat.mod_le _ _) hq
  have H0 := Lib.hid h
  have HT := Lib.hid ht
  clear h ht cf cm
  unfold constR
  obtain ⟨m, hm'⟩ : ∃ m, q % 2 ^ W = m := ⟨_, rfl⟩
  rw [hm'] at hm ⊢
  have HM := Lib.hid hm'
  clear hm'
  go_enter Try.func35, Try.ntmps35
  go_wp2_with (first | (go_at_call 46; refine (trim_any _ _ (by omega) (by omega) _).mono ?_; rw [HT.out, HM.out]; rintro e w' ⟨rfl, rfl⟩) | (go_at_call 43; refine (ask_any H0.out 0 m [] _ (IntsAt.nil w) (by simp [Value.ownBlock]) (nodeOk_leaf (by decide) hm) (by simp)).mono ?_; rintro e w' ⟨F', I', rfl, h1, h2, h3, h4⟩))
  go_ret2
  exact ⟨F', I', rfl, h1, h2, h3, fun k hk => (h4 k hk).imp id (fun h => by simp [Value.ownBlock] at h)⟩
theorem const_nil (w : World) (q : Int) : Calls Try.prog 35 #[.pointer none, .int .u64 q] w fun e w' => e = .returned (.tuple #[.int .i64 0, .int .i64 1]) ∧ w = w' := by
  go_enter Try.func35, Try.ntmps35
  go_wp2
  go_ret2
  exact ⟨rfl, rfl⟩
theorem var_nil (w : World) (q : Int) : Calls Try.prog 30 #[.pointer none, .int .i64 q] w fun e w' => e = .returned (.tuple #[.int .i64 0, .int .i64 1]) ∧ w = w' := by
  go_enter Try.func30, Try.ntmps30
  go_wp2
  go_ret2
  exact ⟨rfl, rfl⟩
theorem app_nil (w : World) (o : Int) (v : Value) : Calls Try.prog 31 #[.pointer none, .int .u8 o, v] w fun e w' => e = .returned (.tuple #[.int .i64 0, .int .i64 1]) ∧ w = w' := by
  go_enter Try.func31, Try.ntmps31
  go_wp2
  go_ret2
  exact ⟨rfl, rfl⟩
theorem var_any (h : Gr w base F I gb W room L) (n : Int) :
    Calls Try.prog 30 #[.pointer (some ⟨gb, 0, none⟩), .int .i64 n] w (GPost w base F I gb W room (varR room L n)) := by
  have H0 := Lib.hid h
  clear h
  by_cases h1 : n < 0
  · have hr : varR room L n = (L, 0, 3) := by unfold varR; rw [if_neg (by omega)]
    rw [hr]
    clear hr
    go_enter Try.func30, Try.ntmps30
    go_wp2
    go_ret2
    exact GPost.same H0.out (Below.refl _ _) 0 3
  · by_cases h2 : n > 4194303
    · have hr : varR room L n = (L, 0, 3) := by unfold varR; rw [if_neg (by omega)]
      rw [hr]
      clear hr
      go_enter Try.func30, Try.ntmps30
      go_wp2
      go_ret2
      exact GPost.same H0.out (Below.refl _ _) 0 3
    · obtain ⟨m, rfl⟩ := Int.eq_ofNat_of_zero_le (show 0 ≤ n by omega)
      have hr : varR room L (m : Int) = askP room L (1, m, []) := by unfold varR; rw [if_pos (by omega)]; simp
      rw [hr]
      clear hr
      have hwr : IntKind.u64.wrap (m : Int) = (m : Int) := by rw [wrap_u64_nat, Nat.mod_eq_of_lt (by omega)]
      go_enter Try.func30, Try.ntmps30
      go_wp2_with (go_at_call 43; refine (ask_any H0.out 1 m [] _ (IntsAt.nil w) (by simp [Value.ownBlock]) (nodeOk_leaf (by decide) (by omega)) (by simp)).mono ?_; rintro e w' ⟨F', I', rfl, g1, g2, g3, g4⟩)
      go_ret2
      exact ⟨F', I', rfl, g1, g2, g3, fun k hk => (g4 k hk).imp id (fun h => by simp [Value.ownBlock] at h)⟩
theorem app_bad (h : Gr w base F I gb W room L) (o : Nat) (ho : o ≤ 255) (xs : List Int) (va : Value) (hv : SliceOf w .i64 va xs) (hb : ¬ (o ≤ 21 ∧ aryN o ≠ 0 ∧ aryN o = xs.length)) :
    Calls Try.prog 31 #[.pointer (some ⟨gb, 0, none⟩), .int .u8 o, va] w (GPost w base F I gb W room (L, 0, 2)) := by
  have H0 := Lib.hid h
  clear h
  obtain ⟨a, n, cap, rfl, hna, -⟩ := hv.parts
  clear hv
  rw [hna] at hb
  clear hna
  obtain ⟨p, hp⟩ : ∃ p : Nat, (if 21 < (o : Int) then 0 else aryN (o : Int).toNat) = p := ⟨_, rfl⟩
  have hp' : 21 < (o : Int) ∨ p = 0 ∨ p ≠ n := by
    by_cases h1 : 21 < (o : Int)
    · exact .inl h1
    · rw [if_neg h1] at hp; simp at hp; right; omega
  have HP := Lib.hid hp
  clear hp hb
  have har : ∀ w', Calls Try.prog 40 #[.int .u8 o] w' fun e w'' => e = .returned (.tuple #[.int .i64 p, .int .i64 (if 21 < (o : Int) then 3 else 0)]) ∧ Below w'.heap.size w' w'' := by
    intro w'
    refine (arity_any o (by omega) (by omega) w').mono ?_
    rintro e w'' ⟨rfl, hb⟩
    refine ⟨?_, hb⟩
    rw [← HP.out]
    by_cases h1 : 21 < (o : Int) <;> simp [h1]
  by_cases h1 : 21 < (o : Int)
  · rw [if_pos h1] at har
    clear hp'
    go_enter Try.func31, Try.ntmps31
    go_wp2_with (go_at_call 40; refine (har _).mono ?_; rintro e w' ⟨rfl, hb⟩)
    go_ret2
    exact GPost.same H0.out hb 0 2
  · rw [if_neg h1] at har
    by_cases h0 : p = 0
    · subst h0
      go_enter Try.func31, Try.ntmps31
      go_wp2_with (go_at_call 40; refine (har _).mono ?_; rintro e w' ⟨rfl, hb⟩)
      go_ret2
      exact GPost.same H0.out hb 0 2
    · have hpn : ((p : Int) != (n : Int)) = true := by simp; omega
      have hp0 : ((p : Int) == 0) = false := by simp; omega
      clear h0
      go_enter Try.func31, Try.ntmps31
      go_wp2_with (go_at_call 40; refine (har _).mono ?_; rintro e w' ⟨rfl, hb⟩)
      go_ret2
      exact GPost.same H0.out hb 0 2
theorem app_good (h : Gr w base F I gb W room L) (o : Nat) (ho : o ≤ 21) (xs : List Int) (va : Value) (hv : SliceOf w .i64 va xs) (h0 : aryN o ≠ 0) (hl : aryN o = xs.length) :
    Calls Try.prog 31 #[.pointer (some ⟨gb, 0, none⟩), .int .u8 o, va] w (GPost w base F I gb W room (if ∀ a ∈ xs, (0 : Int) ≤ a ∧ a < (L.length : Int) then askP room L (o, 0, xs) else (L, 0, 3))) := by
  obtain ⟨R, hR⟩ : ∃ R, (if ∀ a ∈ xs, (0 : Int) ≤ a ∧ a < (L.length : Int) then askP room L (o, 0, xs) else (L, 0, 3)) = R := ⟨_, rfl⟩
  rw [hR]
  have HR := Lib.hid hR
  clear hR
  have Hv := Lib.hid hv
  obtain ⟨a, n, cap, rfl, hna, hcell⟩ := hv.parts
  have H0 := Lib.hid h
  clear hv
  have har : ∀ w', Calls Try.prog 40 #[.int .u8 o] w' fun e w'' => e = .returned (.tuple #[.int .i64 n, .int .i64 0]) ∧ Below w'.heap.size w' w'' := by
    intro w'
    refine (arity_any o (by omega) (by omega) w').mono ?_
    rintro e w'' ⟨rfl, hb⟩
    refine ⟨?_, hb⟩
    rw [if_neg (show ¬ 21 < (o : Int) by omega), if_neg (show ¬ 21 < (o : Int) by omega), ← hna, ← hl]; simp
  have hn3 : n ≤ 3 := by have := aryN_le o; omega
  have hp0 : ((n : Int) == 0) = false := by simp; omega
  have hpn : ((n : Int) != (n : Int)) = false := by simp
  have HNA := Lib.hid (And.intro hna (And.intro h0 hl)); have Hc := Lib.hid hcell
  clear hna hcell h0 hl h
  go_enter Try.func31, Try.ntmps31
  go_wp2_with (go_at_call 40; refine (har _).mono ?_; rintro e w2 ⟨rfl, hb⟩)
  have H2 := Lib.hid (H0.out.later hb)
  obtain ⟨ga, gcap, mb, c0, c1, c2, c3, cf, cm, hlen⟩ := H2.out.parts
  clear cf cm
  go_loop [33] (fun i => ∃ k : Nat, k ≤ n ∧ i = .int .i64 k ∧ ∀ j, j < k → (0 : Int) ≤ xs.getD j 0 ∧ xs.getD j 0 < (L.length : Int)) (fun i => n - (intOf i).toNat)
  case atStart => exact ⟨0, by omega, rfl, fun j hj => by omega⟩
  case round =>
    obtain ⟨k, hk, rfl, hok⟩ := hrel
    by_cases hlt : k < n
    · obtain ⟨b, off, q, rfl, hc, hq⟩ := Hc.out k hlt
      have hc' := cell_later hb hc
      have hqd : xs.getD k 0 = q := by rw [List.getD_eq_getElem?_getD, hq]; rfl
      have hqm : q ∈ xs := List.mem_of_getElem? hq
      have Hq := Lib.hid (And.intro hqd hqm)
      clear hc hq hqd hqm
      have hbad : ¬ ((0 : Int) ≤ q ∧ q < (L.length : Int)) → R = (L, 0, 3) := fun h => by rw [← HR.out]; exact if_neg fun h' => h (h' q Hq.out.2)
      by_cases hq0 : q < 0
      · have hr := hbad (by omega)
        subst hr
        clear hbad
        go_wp2
        go_ret2
        exact GPost.same H0.out hb 0 3
      · by_cases hq1 : (L.length : Int) ≤ q
        · have hr := hbad (by omega)
          subst hr
          clear hbad
          go_wp2
          go_ret2
          exact GPost.same H0.out hb 0 3
        · clear hbad
          go_wp2
          go_round
          case rel => exact ⟨k + 1, by omega, by go_num, fun j hj => by
            rcases Nat.lt_or_ge j k with h | h
            · exact hok j h
            · obtain rfl : j = k := by omega
              rw [Hq.out.1]; omega⟩
          case measure => simp [intOf]; omega
    · obtain rfl : k = n := by omega
      have hall : ∀ a ∈ xs, (0 : Int) ≤ a ∧ a < (L.length : Int) := by
        intro a ha
        obtain ⟨j, hj, rfl⟩ := List.getElem_of_mem ha
        have h := hok j (by have := HNA.out.1; omega)
        rw [List.getD_eq_getElem?_getD, List.getElem?_eq_getElem hj] at h
        exact h
      have hr : R = askP room L (o, 0, xs) := by rw [← HR.out, if_pos hall]
      subst hr
      have HA := Lib.hid hall
      clear hall hok c0 c1 c2 c3
      go_wp2_with ((at_builtin; refine wpList_append_copy 26 3 .i64 8 w2.heap.size w2 _ xs (Hv.out.below hb) _ _ rfl rfl Try.underlying26 Try.infoI64 (by decide) rfl rfl (by have := HNA.out.1; omega) (Nat.le_refl _) ?_; intro v' w3 hv' hb3; obtain ⟨a', m', c', rfl⟩ := hv'.val))
      have hask := ask_any (H2.out.later hb3) o 0 xs _ (intsAt_owns hv') (intBlk_owns hv') ⟨ho, Nat.zero_le _, HNA.out.2.2.symm⟩ HA.out
      go_at_call 43
      refine hask.mono ?_
      rintro e w4 ⟨F', I', rfl, g1, g2, g3, g4⟩
      go_wp2
      go_ret2
      exact GPost.later ⟨F', I', rfl, g1, (Touch.of_below hb3 F).trans g2 (fun k hk => .inl hk), fun k hk => (g3 k hk).imp id (fun h => by have := hb3.size; omega), fun k hk => (g4 k hk).imp id (fun h => (hv'.lt k h).1)⟩ hb
theorem app_any (h : Gr w base F I gb W room L) (o : Nat) (ho : o ≤ 255) (xs : List Int) (va : Value) (hv : SliceOf w .i64 va xs) :
    Calls Try.prog 31 #[.pointer (some ⟨gb, 0, none⟩), .int .u8 o, va] w (GPost w base F I gb W room (appR room L o xs)) := by
  unfold appR
  by_cases hc : o ≤ 21 ∧ aryN o ≠ 0 ∧ aryN o = xs.length
  · rw [if_pos hc]; exact app_good h o hc.1 xs va hv hc.2.1 hc.2.2
  · rw [if_neg hc]; exact app_bad h o ho xs va hv hc
end
end Go.Proofs.Ytofbadmjopefpaa
namespace Go.Proofs.Ytofbadmjopefpaa
open Go.RowKit Go.Maps
set_option maxHeartbeats 800000

theorem mod_law (v n : Int) (hn : 1 ≤ n) : (v.tmod n + n) % n = v % n ∧ -n < v.tmod n ∧ v.tmod n < n := by
  have h1 : v.tmod n < n := Int.tmod_lt_of_pos v (by omega)
  have h2 : -n < v.tmod n := by
    have h := Int.tmod_lt_of_pos (-v) (show 0 < n by omega)
    rw [Int.neg_tmod] at h
    omega
  refine ⟨?_, h2, h1⟩
  rw [Int.add_emod_right]
  conv => rhs; rw [← Int.mul_tdiv_add_tmod v n]
  rw [Int.add_comm, Int.add_mul_emod_self_left]
theorem mod_any (v n : Int) (h1 : 1 ≤ n) (h2 : n ≤ 1000000000) (w : World) :
    Calls Try.prog 27 #[.int .i64 v, .int .i64 n] w fun e w' => e = .returned (.int .i64 (v % n)) ∧ w = w' := by
  obtain ⟨h3, h4, h5⟩ := mod_law v n h1
  have h7 := Int.emod_nonneg v (show n ≠ 0 by omega)
  have h8 := Int.emod_lt_of_pos v (show 0 < n by omega)
  have hz : (n == 0) = false := by simp; omega
  have hm : (n == -1) = false := by simp; omega
  have H3 := Lib.hid h3
  clear h3
  go_enter Try.func27, Try.ntmps27
  go_wp2
  go_ret
  refine ⟨?_, rfl⟩
  rw [← H3.out]; rfl
end Go.Proofs.Ytofbadmjopefpaa
