/- Add and Fill of law 10. Add of law 10: the whole, and what it answers. -/
import Derived.Test.YtofbadmjopefpaaGraphF
namespace Go.Proofs.Ytofbadmjopefpaa
open Go.RowKit Go.Maps
set_option maxHeartbeats 800000

/-- As wp_abs, at an exit. -/
theorem wp_exit_abs {Q : Exit → Act → World → Prop} {x : Exit} {a : Act} {w : World} (Φ : World → Prop) (hΦ : Φ w) (h : ∀ w', Φ w' → Q x a w') : Q x a w := h w hΦ
/-- What is asked for, as a list gives it: What, Op, Num, N, A. -/
abbrev PAsk := Nat × Nat × Nat × Int × List Int
def PAsk.Ok (a : PAsk) : Prop := a.1 ≤ 255 ∧ a.2.1 ≤ 255 ∧ a.2.2.1 < 18446744073709551616 ∧ (-9223372036854775808 ≤ a.2.2.2.1 ∧ a.2.2.2.1 ≤ 9223372036854775807) ∧ (∀ x ∈ a.2.2.2.2, -9223372036854775808 ≤ x ∧ x ≤ 9223372036854775807) ∧ a.2.2.2.2.length ≤ 9223372036854775807
def PAsk.code (a : PAsk) : Nat := 2 + a.2.1 % 20
def argOf (xs : List Int) (i : Nat) : Int := if xs.length = 0 then 0 else xs.getD (i % xs.length) 0
def addArgs (a : PAsk) (n : Nat) : List Int := (List.range (aryN a.code)).map fun i => argOf a.2.2.2.2 i % (n : Int)
def addR (W room : Nat) (L : List PNode) (a : PAsk) : List PNode × Nat × Nat :=
  if a.1 % 4 = 0 ∨ (L.length = 0 ∧ 1 < a.1 % 4) then constR W room L a.2.2.1
  else if a.1 % 4 = 1 then varR room L (a.2.2.2.1 % 6) else appR room L a.code (addArgs a L.length)
/-- A value that is asked for. -/
def AskV (w : World) (v : Value) (a : PAsk) : Prop := ∃ va, v = .agg #[.int .u8 a.1, .int .u8 a.2.1, .int .u64 a.2.2.1, .int .i64 a.2.2.2.1, va] ∧ SliceOf w .i64 va a.2.2.2.2
theorem AskV.below {w w' : World} {v : Value} {a : PAsk} (h : AskV w v a) (hb : Below w.heap.size w w') : AskV w' v a := by
  obtain ⟨va, h1, h2⟩ := h
  exact ⟨va, h1, h2.below hb⟩
theorem ask_box {w w2 : World} {x0 x1 x2 x3 x4 : Value} {t : TypeId} (hb : Below (w.alloc (.cells #[x0, x1, x2, x3, x4] t)).heap.size (w.alloc (.cells #[x0, x1, x2, x3, x4] t)) w2) :
    w2.cell? ⟨w.heap.size, 0, none⟩ = some x0 ∧ w2.cell? ⟨w.heap.size, 1, none⟩ = some x1 ∧ w2.cell? ⟨w.heap.size, 2, none⟩ = some x2 ∧ w2.cell? ⟨w.heap.size, 3, none⟩ = some x3 ∧ w2.cell? ⟨w.heap.size, 4, none⟩ = some x4 ∧ Below w.heap.size w w2 := by
  have h := (hb.block w.heap.size (by simp)).trans (heap_alloc_new w _)
  refine ⟨?_, ?_, ?_, ?_, ?_, (below_new w _).trans (hb.mono (by simp))⟩ <;> rw [cell_of_row w2 _ _ _ _ _ h] <;> rfl
section
variable {w : World} {base : Nat} {F I : List Nat} {gb W room : Nat} {L : List PNode}
theorem arity_code (a1 : Nat) (w : World) : Calls Try.prog 40 #[.int .u8 (2 + (a1 : Int) % 20)] w fun e w' => e = .returned (.tuple #[.int .i64 (aryN (2 + a1 % 20)), .int .i64 0]) ∧ Below w.heap.size w w' := by
  refine (arity_any _ (by omega) (by omega) w).mono ?_
  rintro e w' ⟨rfl, hb⟩
  rw [if_neg (by omega), if_neg (by omega)]
  have : (2 + (a1 : Int) % 20).toNat = 2 + a1 % 20 := by omega
  rw [this]
  exact ⟨rfl, hb⟩
theorem add_const (h : Gr w base F I gb W room L) (a : PAsk) (v : Value) (hv : AskV w v a) (ha : a.Ok) (hc : a.1 % 4 = 0 ∨ (L.length = 0 ∧ 1 < a.1 % 4)) :
    Calls Try.prog 26 #[.pointer (some ⟨gb, 0, none⟩), v] w (GPost w base F I gb W room (constR W room L a.2.2.1)) := by
  obtain ⟨va, rfl, hs⟩ := hv
  obtain ⟨a0, a1, q, n, xs⟩ := a
  obtain ⟨h0, h1, h2, h3, h4, h5⟩ := ha
  simp only at h0 h1 h2 h3 h4 h5 hc hs ⊢
  obtain ⟨va, m, cap, rfl, hna, -⟩ := hs.parts
  clear hs h4 hna h5
  have H0 := Lib.hid h
  clear h
  by_cases hc0 : a0 % 4 = 0
  · have ht : (((a0 : Int) % 4) == 0) = true := by simp; omega
    clear hc
    go_enter Try.func26, Try.ntmps26
    go_wp2_with fail
    go_at_call 40
    refine (arity_code a1 _).mono ?_
    rintro e w2 ⟨rfl, hb⟩
    obtain ⟨c0, c1, c2, c3, c4, hb2⟩ := ask_box hb
    go_wp2_with fail
    go_at_call 35
    refine (const_any (H0.out.later hb2) q h2).mono ?_
    rintro e w3 hp
    have hp' := GPost.later hp hb2
    obtain ⟨F', I', rfl, g1, g2, g3⟩ := hp'
    go_wp2
    go_ret2
    exact ⟨F', I', rfl, g1, g2, g3⟩
  · have ht : (((a0 : Int) % 4) == 0) = false := by simp; omega
    have ht1 : decide ((1 : Int) < ((a0 : Int) % 4)) = true := by simp; omega
    have hL : L.length = 0 := by omega
    have HL := Lib.hid hL
    clear hc hL
    go_enter Try.func26, Try.ntmps26
    go_wp2_with fail
    go_at_call 40
    refine (arity_code a1 _).mono ?_
    rintro e w2 ⟨rfl, hb⟩
    obtain ⟨c0, c1, c2, c3, c4, hb2⟩ := ask_box hb
    go_wp2_with (go_at_call 25; refine (len_any (H0.out.later hb2)).mono ?_; rw [HL.out]; rintro e w6 ⟨rfl, rfl⟩)
    go_at_call 35
    refine (const_any (H0.out.later hb2) q h2).mono ?_
    rintro e w3 hp
    have hp' := GPost.later hp hb2
    obtain ⟨F', I', rfl, g1, g2, g3⟩ := hp'
    go_wp2
    go_ret2
    exact ⟨F', I', rfl, g1, g2, g3⟩
theorem add_var (h : Gr w base F I gb W room L) (a : PAsk) (v : Value) (hv : AskV w v a) (ha : a.Ok) (hc : a.1 % 4 = 1) :
    Calls Try.prog 26 #[.pointer (some ⟨gb, 0, none⟩), v] w (GPost w base F I gb W room (varR room L (a.2.2.2.1 % 6))) := by
  obtain ⟨va, rfl, hs⟩ := hv
  obtain ⟨a0, a1, q, n, xs⟩ := a
  obtain ⟨h0, h1, h2, h3, h4, h5⟩ := ha
  simp only at h0 h1 h2 h3 h4 h5 hc hs ⊢
  obtain ⟨va, m, cap, rfl, hna, -⟩ := hs.parts
  clear hs h4 hna h5
  have H0 := Lib.hid h
  clear h
  have ht : (((a0 : Int) % 4) == 0) = false := by simp; omega
  have ht1 : decide ((1 : Int) < ((a0 : Int) % 4)) = false := by simp; omega
  have ht2 : (((a0 : Int) % 4) == 1) = true := by simp; omega
  go_enter Try.func26, Try.ntmps26
  go_wp2_with fail
  go_at_call 40
  refine (arity_code a1 _).mono ?_
  rintro e w2 ⟨rfl, hb⟩
  obtain ⟨c0, c1, c2, c3, c4, hb2⟩ := ask_box hb
  obtain ⟨bl, hbl⟩ : ∃ bl : Bool, (((L.length : Nat) : Int) == 0) = bl := ⟨_, rfl⟩
  cases bl
  all_goals
    go_wp2_with (first | (go_at_call 25; refine (len_any (H0.out.later hb2)).mono ?_; rintro e w6 ⟨rfl, rfl⟩) | (go_at_call 27; refine (mod_any n 6 (by decide) (by decide) _).mono ?_; rintro e w6 ⟨rfl, rfl⟩))
    go_at_call 30
    refine (var_any (H0.out.later hb2) (n % 6)).mono ?_
    rintro e w3 hp
    have hp' := GPost.later hp hb2
    obtain ⟨F', I', rfl, g1, g2, g3⟩ := hp'
    go_wp2
    go_ret2
    exact ⟨F', I', rfl, g1, g2, g3⟩
theorem addArgs_take (a : PAsk) (n k : Nat) (hk : k < aryN a.code) : (addArgs a n).take k ++ [argOf a.2.2.2.2 k % (n : Int)] = (addArgs a n).take (k + 1) := by
  refine take_snoc' ?_
  unfold addArgs
  simp [hk]
theorem addArgs_len (a : PAsk) (n : Nat) : (addArgs a n).length = aryN a.code := by unfold addArgs; simp
set_option maxRecDepth 100000 in
theorem add_app (h : Gr w base F I gb W room L) (a : PAsk) (v : Value) (hv : AskV w v a) (ha : a.Ok) (hc : 1 < a.1 % 4) (hL : L.length ≠ 0) :
    Calls Try.prog 26 #[.pointer (some ⟨gb, 0, none⟩), v] w (GPost w base F I gb W room (appR room L a.code (addArgs a L.length))) := by
  have htake := fun k => addArgs_take a L.length k
  have hlen := addArgs_len a L.length
  obtain ⟨args, hargs⟩ : ∃ args, addArgs a L.length = args := ⟨_, rfl⟩
  rw [hargs] at htake hlen ⊢
  clear hargs
  obtain ⟨va, rfl, hs⟩ := hv
  obtain ⟨a0, a1, q, n, xs⟩ := a
  obtain ⟨h0, h1, h2, h3, h4, h5⟩ := ha
  simp only [PAsk.code] at h0 h1 h2 h3 h4 h5 hc hs htake hlen ⊢
  obtain ⟨va, m, cap, rfl, hna, hcell⟩ := hs.parts
  rw [hna] at h5
  obtain ⟨p, hp⟩ : ∃ p, aryN (2 + a1 % 20) = p := ⟨_, rfl⟩
  have hp3 : p ≤ 3 := by rw [← hp]; exact aryN_le _
  have har := arity_code a1
  rw [hp] at htake hlen har
  have hl := h.len
  have hr2 := h.r2
  have H0 := Lib.hid h
  have HT := Lib.hid htake
  have HL := Lib.hid hlen
  have HNA := Lib.hid hna
  have HC := Lib.hid hcell
  have H4 := Lib.hid h4
  have ht : (((a0 : Int) % 4) == 0) = false := by simp; omega
  have ht1 : decide ((1 : Int) < ((a0 : Int) % 4)) = true := by simp; omega
  have ht2 : (((a0 : Int) % 4) == 1) = false := by simp; omega
  have hbl : (((L.length : Nat) : Int) == 0) = false := by rw [beq_eq_false_iff_ne]; omega
  have hcode : ((2 + a1 % 20 : Nat) : Int) = 2 + (a1 : Int) % 20 := by omega
  have HCo := Lib.hid hcode
  clear h hs h4 hp htake hlen hna hcell hc hcode
  go_enter Try.func26, Try.ntmps26
  go_wp2_with fail
  go_at_call 40
  refine (har _).mono ?_
  rintro e w2 ⟨rfl, hb⟩
  obtain ⟨c0, c1, c2, c3, c4, hb2⟩ := ask_box hb
  have hz2 := hb.size
  rw [World.size_alloc] at hz2
  go_wp2_with (first | (go_at_call 25; refine (len_any (H0.out.later hb2)).mono ?_; rintro e w6 ⟨rfl, rfl⟩))
  go_loopw [9, 10] (fun v i wr => ∃ k : Nat, k ≤ p ∧ i = .int .i64 k ∧ OwnInts wr w2.heap.size 3 .i64 v (args.take k) ∧ Below w2.heap.size w2 wr) (fun _ i _ => p - (intOf i).toNat)
  case atStart => exact ⟨0, by omega, rfl, OwnInts.nil _ _ _ _, Below.refl _ _⟩
  case round =>
    obtain ⟨k, hk, rfl, hown, hbr⟩ := hrel
    have d4 := cell_later hbr c4
    have hbw := hb2.trans (hbr.mono hb2.size)
    have hG := H0.out.later hbw
    have HG := Lib.hid hG
    have hbs := hbr.size
    clear hG
    by_cases hlt : k < p
    · have Htk := Lib.hid (HT.out k hlt)
      have hcl : (args.take k).length ≤ 1000000000 := by have := List.length_take_le k args; have := HL.out; omega
      rcases Nat.eq_zero_or_pos m with hm | hm
      · subst hm
        have harg : argOf xs k % (L.length : Int) = 0 := by unfold argOf; rw [if_pos HNA.out]; simp
        have Harg := Lib.hid harg
        clear harg
        go_wp2_with (first | (go_at_call 25; refine (len_any HG.out).mono ?_; rintro e w6 ⟨rfl, rfl⟩) | (go_at_call 27; refine (mod_any 0 L.length (by omega) (by omega) _).mono ?_; rintro e w6 ⟨rfl, rfl⟩) | (at_builtin; refine wpList_append1_int 26 3 .i64 w2.heap.size wr _ (args.take k) 0 8 hown _ _ rfl rfl Try.underlying26 Try.infoI64 (by decide) rfl rfl hcl hbs ?_; intro v' w' hown' hb' hv'))
        go_roundw
        case rel => exact ⟨k + 1, by omega, by go_num, by rw [← Htk.out, Harg.out]; exact hown', hbr.trans hb'⟩
        case measure => simp [intOf]; omega
      · obtain ⟨b, off, y, rfl, hc, hy⟩ := HC.out (k % m) (Nat.mod_lt _ hm)
        have hc' := cell_later hbw hc
        have hm0 : decide ((0 : Int) < (m : Int)) = true := by simp; omega
        have harg : argOf xs k = y := by
          unfold argOf
          rw [HNA.out, if_neg (by omega), List.getD_eq_getElem?_getD, hy]; rfl
        have Harg := Lib.hid harg
        have hmz : ((m : Int) == 0) = false := by simp; omega
        have hkm : ((k : Int).tmod (m : Int)) = ((k % m : Nat) : Int) := by rw [Int.tmod_eq_emod_of_nonneg (by omega)]; simp
        have hkm2 : ((k : Int) % (m : Int)) = ((k % m : Nat) : Int) := by simp
        have hkl := Nat.mod_lt k hm
        obtain ⟨j, hj⟩ : ∃ j, k % m = j := ⟨_, rfl⟩
        rw [hj] at hc hy hc' hkm hkm2 hkl
        clear harg hc hy hj
        go_wp2
        go_quiet (fail)
        refine wp_exit_abs (fun w5 => Below wr.heap.size wr w5) (below_drewN (Below.refl _ _) _) ?_
        rintro w5 hb5
        have HG5 := Lib.hid (HG.out.later hb5)
        have hown5 := hown.below hb5
        have hbs5 := Nat.le_trans hbs hb5.size
        clear hown
        go_wp2_with (first | (go_at_call 25; refine (len_any HG5.out).mono ?_; rintro e w6 ⟨rfl, rfl⟩) | (go_at_call 27; refine (mod_any y L.length (by omega) (by omega) _).mono ?_; rintro e w6 ⟨rfl, rfl⟩) | (at_builtin; refine wpList_append1_int 26 3 .i64 w2.heap.size w5 _ (args.take k) (y % (L.length : Int)) 8 hown5 _ _ rfl rfl Try.underlying26 Try.infoI64 (by decide) rfl rfl hcl hbs5 ?_; intro v' w' hown' hb' hv'))
        go_roundw
        case rel => exact ⟨k + 1, by omega, by go_num, by rw [← Htk.out, Harg.out]; exact hown', (hbr.trans (hb5.mono hbs)).trans hb'⟩
        case measure => simp [intOf]; omega
    · obtain rfl : k = p := by omega
      have hsl := hown.slice
      rw [List.take_of_length_le (by have := HL.out; omega)] at hsl
      have hfin := app_any HG.out (2 + a1 % 20) (by omega) args _ hsl
      rw [HCo.out] at hfin
      clear hown hsl
      go_wp2_with fail
      go_at_call 31
      refine hfin.mono ?_
      rintro e w3 hp
      have hp' := GPost.later hp hbw
      obtain ⟨F', I', rfl, g1, g2, g3⟩ := hp'
      go_wp2
      go_ret2
      exact ⟨F', I', rfl, g1, g2, g3⟩
end
end Go.Proofs.Ytofbadmjopefpaa
namespace Go.Proofs.Ytofbadmjopefpaa
open Go.RowKit Go.Maps
set_option maxHeartbeats 800000

section
variable {w : World} {base : Nat} {F I : List Nat} {gb W room : Nat} {L : List PNode}
theorem ladd_any (h : Gr w base F I gb W room L) (a : PAsk) (v : Value) (hv : AskV w v a) (ha : a.Ok) :
    Calls Try.prog 26 #[.pointer (some ⟨gb, 0, none⟩), v] w (GPost w base F I gb W room (addR W room L a)) := by
  unfold addR
  by_cases h1 : a.1 % 4 = 0 ∨ (L.length = 0 ∧ 1 < a.1 % 4)
  · rw [if_pos h1]; exact add_const h a v hv ha h1
  · rw [if_neg h1]
    by_cases h2 : a.1 % 4 = 1
    · rw [if_pos h2]; exact add_var h a v hv ha h2
    · rw [if_neg h2]; exact add_app h a v hv ha (by omega) (by omega)
end
/-- What asking gives where there is room. -/
def Grown (L : List PNode) (n : PNode) (R : List PNode × Nat × Nat) : Prop := R.2.2 = 0 ∧ (R.1 = L ∧ L[R.2.1]? = some n ∨ n ∉ L ∧ R.1 = L ++ [n] ∧ R.2.1 = L.length)
theorem askP_grown {L : List PNode} {room : Nat} (h : L.length < room) (n : PNode) : Grown L n (askP room L n) := by
  unfold askP Grown
  cases hf : L.findIdx? (· == n) with
  | some t => exact ⟨rfl, .inl ⟨rfl, find_some hf⟩⟩
  | none =>
    rw [if_neg (by omega)]
    exact ⟨rfl, .inr ⟨find_none hf, rfl, rfl⟩⟩
theorem code_bounds (a : PAsk) : 2 ≤ a.code ∧ a.code ≤ 21 ∧ aryN a.code ≠ 0 := by
  unfold PAsk.code
  have : a.2.1 % 20 < 20 := Nat.mod_lt _ (by decide)
  refine ⟨by omega, by omega, ?_⟩
  unfold aryN
  rw [if_neg (by omega)]
  split
  · decide
  · split <;> decide
theorem addArgs_in (a : PAsk) (n : Nat) (hn : n ≠ 0) : ∀ x ∈ addArgs a n, (0 : Int) ≤ x ∧ x < (n : Int) := by
  intro x hx
  obtain ⟨i, _, rfl⟩ := List.mem_map.1 hx
  exact ⟨Int.emod_nonneg _ (by omega), Int.emod_lt_of_pos _ (by omega)⟩
/-- The node that Add asks for. -/
def addN (W : Nat) (L : List PNode) (a : PAsk) : PNode :=
  if a.1 % 4 = 0 ∨ (L.length = 0 ∧ 1 < a.1 % 4) then (0, a.2.2.1 % 2 ^ W, [])
  else if a.1 % 4 = 1 then (1, (a.2.2.2.1 % 6).toNat, []) else (a.code, 0, addArgs a L.length)
theorem addR_ask (W room : Nat) (L : List PNode) (a : PAsk) : addR W room L a = askP room L (addN W L a) := by
  unfold addR addN
  by_cases h1 : a.1 % 4 = 0 ∨ (L.length = 0 ∧ 1 < a.1 % 4)
  · rw [if_pos h1, if_pos h1]; rfl
  · rw [if_neg h1, if_neg h1]
    by_cases h2 : a.1 % 4 = 1
    · rw [if_pos h2, if_pos h2]
      unfold varR
      rw [if_pos ⟨Int.emod_nonneg _ (by decide), by have := Int.emod_lt_of_pos a.2.2.2.1 (show (0 : Int) < 6 by decide); omega⟩]
    · rw [if_neg h2, if_neg h2]
      have hc := code_bounds a
      unfold appR
      rw [if_pos ⟨hc.2.1, hc.2.2, (addArgs_len a _).symm⟩, if_pos (addArgs_in a _ (by omega))]
theorem addR_grown {L : List PNode} {room : Nat} (W : Nat) (h : L.length < room) (a : PAsk) : Grown L (addN W L a) (addR W room L a) := by
  rw [addR_ask]; exact askP_grown h _
end Go.Proofs.Ytofbadmjopefpaa
